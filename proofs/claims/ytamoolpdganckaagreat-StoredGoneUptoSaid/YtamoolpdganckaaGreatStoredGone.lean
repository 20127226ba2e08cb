/-
  At the end of a run that has not failed the store has no constraint that is never stored: the law returns true where the arguments are of bulk at most 1048576.
-/
import Derived.Test.YtamoolpdganckaaGreatLSA
import Derived.Test.YtamoolpdganckaaGreatLSB
import Derived.Test.YtamoolpdganckaaGreatLSC
import Derived.Test.YtamoolpdganckaaGreatLSD
import Derived.Test.YtamoolpdganckaaGreatLSE
import Derived.Test.YtamoolpdganckaaGreatLSF
import Derived.Test.YtamoolpdganckaaGreatLSG
import Derived.Test.YtamoolpdganckaaGreatLSH
import Derived.Test.YtamoolpdganckaaGreatLSI
import Derived.Test.YtamoolpdganckaaGreatLSJ
namespace Go.Proofs.YtamoolpdganckaaGreat.storedGone
set_option maxRecDepth 100000
open Go.ChangeShapes Go.WideShapes Go.ChangeAt Go.RowKit
set_option linter.unusedVariables false

theorem holds : zbn 3 Tryz.f3 :=
  qze [zbK, bGoals] (by rw [Tryz.params3]; rfl) fun es h hb => by
    match es, h with
    | [_, _], ⟨⟨p, rfl⟩, ⟨goals, rfl⟩, _⟩ => exact qow _ _ (by simp only [zG] at hb; omega) (by simp only [zG] at hb; omega)

set_option maxRecDepth 100000 in
theorem lifted (os : Os) (started : os.Started) (H : Type) (enc : TypeId × Value → H) (F : Stop.Interp) :
    ReturnsInHanded {} Tryz.checked os 3 .any ((Rows.OpenSpec.upto Rows.storedGoneSpec).pre6 enc Tryz.prog Tryz.f3 Rows.storedGoneUptoRow.domain false) (((Rows.OpenSpec.upto Rows.storedGoneSpec).at F).post enc Tryz.prog Tryz.f3 false true false false) := by
  refine returnsInHanded_of_cond (C := Tryz.checked) (s := Rows.OpenSpec.upto Rows.storedGoneSpec) (k := Rows.uptoSmall) rfl own started (by kernel_rfl) Tryz.func3
    (OpenSpec.witness (enc := enc) (C := Tryz.checked) (s := Rows.OpenSpec.upto Rows.storedGoneSpec) (k := Rows.uptoSmall) rfl false ⟨#[], #[.agg #[.slice none 0 0, .slice none 0 0], .slice none 0 0], []⟩ 8 (by kernel_rfl) (by kernel_rfl) (by kernel_rfl)
      (x := ([.agg [.nil, .nil], .nil], [], [])) (by kernel_rfl) rfl (by kernel_rfl)) ?_
  intro W base args ds gs before hval hW _ hk _
  exact qrT holds rfl (by kernel_rfl) rfl rfl (fun H ds h => by
    match ds, h with
    | [_, _], _ => rfl) W base args ds gs before hval hW hk

theorem over : Rows.storedGoneUptoRow.holds Tryz.pinned (Rows.OpenSpec.upto Rows.storedGoneSpec) :=
  OpenClaim.holds_of_cond 3 Tryz.f3 rfl rfl rfl rfl rfl rfl rfl ⟨rfl, rfl, rfl, rfl, rfl⟩ rfl rfl rfl rfl rfl (by kernel_rfl) Tryz.func3 (by kernel_rfl)
    (of_decide_eq_true (by kernel_rfl)) (by unfold Func.isWrapper; first | (rw [if_pos (by decide +kernel)]; kernel_rfl) | (rw [if_neg (by decide +kernel)]; exact ⟨rfl, rfl⟩))
    (fun os started H enc _ F => lifted os started H enc F)

theorem proved : Rows.StoredGoneUptoSaid :=
  over
#print axioms proved
end Go.Proofs.YtamoolpdganckaaGreat.storedGone
