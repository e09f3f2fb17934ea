/-
  PLAIN LAWS about the models: no program in sight. Conditions: as each theorem states them.
-/
import Derived.Test.YtahohnhmdlndfaaExactWorstAirwayPlain4
set_option linter.unusedVariables false
set_option linter.unusedSimpArgs false
set_option linter.unusedSectionVars false
set_option linter.unnecessarySimpa false
namespace Go.Proofs.Ytahohnhmdlndfaa
open Go Go.RowKit Go.Proofs Go.Proofs.Ytahohnhmdlndfaa.E
/-! ## Gas: the shares at the ends -/
theorem ends_is {m : gMine} {flows : List Int} {list : List gSource} (hf : FlowsIn m flows) : m_spec_l13Ends m flows list = (irange 0 m.Airways.length).map (endOf m flows list (m_spec_l13Shares m flows list)) := by
  have h := LOOP_fori (b := m_spec_l13Ends_b1 m flows list) (k := fun x => x.1) (n := (flows.length : Int)) (fun i xs => xs ++ [endOf m flows list (m_spec_l13Shares m flows list) i]) (fun rec xs i h0 h1 => by
    simp only [m_spec_l13Ends_b1, h1, decide_true, Bool.cond_true, endOf]) (fun rec xs => by simp [m_spec_l13Ends_b1]) (((flows.length : Int) - 0 : Int).toNat + 1) 0 [] (by omega) (by omega) (by omega)
  simp only [m_spec_l13Ends]
  rw [h, fori_map]
  simp [hf.1]
theorem ends_eq {m : gMine} {flows : List Int} {list : List gSource} (hm : MineIn m) (hf : FlowsIn m flows) : m_impl_Mine_endShares m flows list (m_impl_Mine_junctionShares m flows list) = m_spec_l13Ends m flows list := by
  rw [shares_eq hm hf, endShares_is hf, ends_is hf]
theorem ends_len {m : gMine} {flows : List Int} {list : List gSource} (hf : FlowsIn m flows) : (m_spec_l13Ends m flows list).length = m.Airways.length := by
  rw [ends_is hf]; simp [irange_len]

end Go.Proofs.Ytahohnhmdlndfaa
