/-
  Arguments opened: terms, constraints, goals, and slices of them.
-/
import Derived.Test.YtcjbageaiafbmaaLay
import Derived.Test.YtcjbageaiafbmaaLaw
import Derived.Test.YtcjbageaiafbmaaAtom
namespace Go.Proofs.Ytcjbageaiafbmaa
open Go.ChangeShapes Go.WideShapes Go.ChangeAt Go.RowKit

theorem i64_of {n : Int} (h : (Lit.int .i64 n).wf = true) : I64 n := by
  simp [Lit.wf, IntKind.min, IntKind.max, IntKind.signed, IntKind.bits] at h
  unfold I64
  omega
theorem cells_int : (Try.prog).cellsOf 3 = 1 := by kernel_rfl
theorem cells_string : (Try.prog).cellsOf 9 = 1 := by kernel_rfl
theorem cells_terms : (Try.prog).cellsOf 22 = 1 := by kernel_rfl
theorem cells_term : (Try.prog).cellsOf 24 = 4 := by kernel_rfl
theorem cells_atom : (Try.prog).cellsOf 46 = 2 := by kernel_rfl
theorem cells_goal : (Try.prog).cellsOf 39 = 3 := by kernel_rfl

section
variable {H : Type} {enc : TypeId × Value → H} {W : World} {base : Nat} {sp : Nat → Bool} {hd : Bool}

theorem open_termF : ∀ (fuel : Nat) (cs : List Value) (x : DataW H × List MemPlace), DataW.trod enc Try.prog W base sp hd fuel 24 cs = some x → ∃ t, CT W t cs := by
  intro fuel
  induction fuel using Nat.strongRecOn with
  | _ fuel IH =>
    intro cs x h
    obtain ⟨xs, n, rfl, rfl, hl, hlen, hf⟩ := DataW.trod_struct Try.underlying24 h
    rw [cells_term] at hl
    match xs, hlen, cs, hl with
    | [y0, y1, y2, y3], _, [c0, c1, c2, c3], _ =>
      have g0 := hf 0 _ rfl
      have g1 := hf 1 _ rfl
      have g2 := hf 2 _ rfl
      have g3 := hf 3 _ rfl
      simp [cells_int, cells_string, cells_terms] at g0 g1 g2 g3
      obtain ⟨k, e0, _, w0⟩ := DataW.trod_int Try.underlying3 g0
      obtain ⟨i, e1, _, w1⟩ := DataW.trod_int Try.underlying3 g1
      obtain ⟨s, e2, _, w2⟩ := DataW.trod_string Try.underlying9 g2
      obtain ⟨l, v, e3, h3⟩ := Lay.open_sl (L := layT) Try.underlying22 cells_term (fun m cs x hm h => IH m (by omega) cs x h) g3
      obtain ⟨A, c, zs, rfl, hc1, hc2, hr, hz⟩ := layT_sl.1 h3
      simp only [List.cons.injEq, and_true] at e0 e1 e2 e3
      subst e0 e1 e2 e3
      refine ⟨.mk k i s l, ?_⟩
      simp only [CT]
      exact ⟨A, c, zs, rfl, ⟨i64_of w0, i64_of w1, by unfold maxLen at w2; omega, hc1, hc2⟩, hr, hz⟩
theorem open_termsF {fuel : Nat} {cs : List Value} {x : DataW H × List MemPlace} (h : DataW.trod enc Try.prog W base sp hd fuel 22 cs = some x) : ∃ l v, cs = [v] ∧ SlT W l v := by
  obtain ⟨l, v, h1, h2⟩ := Lay.open_sl (L := layT) Try.underlying22 cells_term (fun m cs x _ h => open_termF m cs x h) h
  exact ⟨l, v, h1, layT_sl.1 h2⟩
theorem open_atomF {fuel : Nat} {cs : List Value} {x : DataW H × List MemPlace} (h : DataW.trod enc Try.prog W base sp hd fuel 46 cs = some x) : ∃ a, CA W a cs := by
  obtain ⟨xs, n, rfl, rfl, hl, hlen, hf⟩ := DataW.trod_struct Try.underlying46 h
  rw [cells_atom] at hl
  match xs, hlen, cs, hl with
  | [y0, y1], _, [c0, c1], _ =>
    have g0 := hf 0 _ rfl
    have g1 := hf 1 _ rfl
    simp [cells_string, cells_terms] at g0 g1
    obtain ⟨s, e0, _, w0⟩ := DataW.trod_string Try.underlying9 g0
    obtain ⟨l, v, e1, h1⟩ := open_termsF g1
    simp only [List.cons.injEq, and_true] at e0 e1
    subst e0 e1
    exact ⟨⟨s, l⟩, _, rfl, h1, by unfold maxLen at w0; omega⟩
theorem open_goalF {fuel : Nat} {cs : List Value} {x : DataW H × List MemPlace} (h : DataW.trod enc Try.prog W base sp hd fuel 39 cs = some x) : ∃ g, CG W g cs := by
  obtain ⟨xs, n, rfl, rfl, hl, hlen, hf⟩ := DataW.trod_struct Try.underlying39 h
  rw [cells_goal] at hl
  match xs, hlen, cs, hl with
  | [y0, y1, y2], _, [c0, c1, c2], _ =>
    have g0 := hf 0 _ rfl
    have g1 := hf 1 _ rfl
    have g2 := hf 2 _ rfl
    simp [cells_int, cells_string, cells_terms] at g0 g1 g2
    obtain ⟨k, e0, _, w0⟩ := DataW.trod_int Try.underlying3 g0
    obtain ⟨s, e1, _, w1⟩ := DataW.trod_string Try.underlying9 g1
    obtain ⟨l, v, e2, h2⟩ := open_termsF g2
    simp only [List.cons.injEq, and_true] at e0 e1 e2
    subst e0 e1 e2
    exact ⟨⟨k, s, l⟩, _, rfl, h2, i64_of w0, by unfold maxLen at w1; omega⟩

variable {b0 : Nat} {r : Reach} {v : Value} {d : DataW H} {ps : List MemPlace}
theorem open_term (hv : Value.okWide Try.prog W r b0 24 v) (h : DataW.Trod enc Try.prog W base sp hd 24 v d ps) : ∃ t, VT W t v := by
  obtain ⟨cs, rfl, _⟩ := okWide_struct Try.underlying24 hv
  obtain ⟨fuel, hf⟩ := h
  obtain ⟨t, ht⟩ := open_termF _ _ _ hf
  exact ⟨t, cs.toList, rfl, ht⟩
theorem open_atom (hv : Value.okWide Try.prog W r b0 46 v) (h : DataW.Trod enc Try.prog W base sp hd 46 v d ps) : ∃ a, VA W a v := by
  obtain ⟨cs, rfl, _⟩ := okWide_struct Try.underlying46 hv
  obtain ⟨fuel, hf⟩ := h
  obtain ⟨t, ht⟩ := open_atomF hf
  exact ⟨t, cs.toList, rfl, ht⟩
theorem open_goal (hv : Value.okWide Try.prog W r b0 39 v) (h : DataW.Trod enc Try.prog W base sp hd 39 v d ps) : ∃ g, VG W g v := by
  obtain ⟨cs, rfl, _⟩ := okWide_struct Try.underlying39 hv
  obtain ⟨fuel, hf⟩ := h
  obtain ⟨t, ht⟩ := open_goalF hf
  exact ⟨t, cs.toList, rfl, ht⟩
end
end Go.Proofs.Ytcjbageaiafbmaa
