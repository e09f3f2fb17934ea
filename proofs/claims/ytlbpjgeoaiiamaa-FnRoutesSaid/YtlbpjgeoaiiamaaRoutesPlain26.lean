/-
  PLAIN LAWS about the models: no program in sight. Conditions: as each theorem states them.
-/
import Derived.Test.YtlbpjgeoaiiamaaRoutesPlain25
set_option linter.unusedVariables false
set_option linter.unusedSimpArgs false
set_option linter.unusedSectionVars false
set_option linter.unnecessarySimpa false
namespace Go.Proofs.Ytlbpjgeoaiiamaa
open Go Go.RowKit Go.Proofs Go.Proofs.Ytlbpjgeoaiiamaa.E
/-! ## Shares, rounded up -/
/-- the share, rounded up -/
def upQ (a q : Int) : Int := (a + q - 1) / q
theorem up_is {a q : Int} (ha : 0 ≤ a ∧ a ≤ 1000000000000000) (hq : 1 ≤ q ∧ q ≤ 1000000000) : m_impl_divUp a q = upQ a q := by
  simp only [m_impl_divUp, upQ]
  rw [wr64 (n := a + q) (by omega), wr64 (n := a + q - 1) (by omega), Int.tdiv_eq_ediv_of_nonneg (by omega)]
  have h1 : 0 ≤ (a + q - 1) / q := Int.ediv_nonneg (by omega) (by omega)
  have h2 : (a + q - 1) / q ≤ a + q - 1 := Int.ediv_le_self _ (by omega)
  exact wr64 (by omega)
theorem up_low {a q : Int} (hq : 1 ≤ q) : a ≤ upQ a q * q := by
  have h1 := Int.ediv_mul_add_emod (a + q - 1) q
  have h2 := Int.emod_lt_of_pos (a + q - 1) (show 0 < q by omega)
  unfold upQ; omega
theorem up_iff {a q v : Int} (hq : 1 ≤ q) : upQ a q ≤ v ↔ a ≤ v * q := by
  constructor
  · intro h
    have h1 := up_low (a := a) hq
    have h2 : upQ a q * q ≤ v * q := Int.mul_le_mul_of_nonneg_right h (by omega)
    omega
  · intro h
    unfold upQ
    have : (a + q - 1) / q < v + 1 := Int.ediv_lt_of_lt_mul (by omega) (by rw [Int.add_mul]; omega)
    omega
theorem up_mono {a q r : Int} (ha : 0 ≤ a) (hq : 1 ≤ q) (hr : q ≤ r) : upQ a r ≤ upQ a q := by
  rw [up_iff (by omega)]
  have h1 := up_low (a := a) hq
  have h0 : 0 ≤ upQ a q := Int.ediv_nonneg (by omega) (by omega)
  have h2 : upQ a q * q ≤ upQ a q * r := Int.mul_le_mul_of_nonneg_left hr h0
  omega
theorem up_nonneg {a q : Int} (ha : 0 ≤ a) (hq : 1 ≤ q) : 0 ≤ upQ a q := Int.ediv_nonneg (by omega) (by omega)

end Go.Proofs.Ytlbpjgeoaiiamaa
