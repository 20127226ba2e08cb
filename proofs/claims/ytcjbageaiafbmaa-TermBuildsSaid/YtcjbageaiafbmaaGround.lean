/-
  term.Ground: no place of a variable.
-/
import Derived.Test.YtcjbageaiafbmaaEach
import Derived.Test.YtcjbageaiafbmaaRight
namespace Go.Proofs.Ytcjbageaiafbmaa
open Go.RowKit Go.Shelf
attribute [local go_sem] Oper.semAt_some

/-- A term has no variables. -/
def groundT (t : T) : Bool := (occT t).isEmpty
theorem occL_one (t : T) : occL [t] = occT t := by simp [occL]

theorem one_slice {w : World} {t : T} {cs : Array Value} (h : VT w t (.agg cs)) (ty : TypeId) (g : Nat) (hg : w.heap.size = g) : SlT (w.alloc (.cells cs ty)) [t] (.slice (some ⟨g, 0, none⟩) 1 1) :=
  ⟨some ⟨g, 0, none⟩, 1, cs.toList, rfl, by simp, by omega, Rd.newAt _ _ _ _ hg, CL.single (h.ct.ext ((Ext.rfl' w).al _))⟩

theorem ground_any (d : Nat) (hd : d ≤ 1000000) (t : T) (v : Value) (w : World) (hn : wt t ≤ d) (hv : VT w t v) : Calls Try.prog 21 #[v] w (Ret w (Is (.bool (groundT t)))) := by
  obtain ⟨sl, rfl, hs, -⟩ := hv.open_
  obtain ⟨A, c, xs, rfl, -⟩ := hs
  refine (callsIn_wide (n := 3)).1 ?_
  refine callsIn_of_wp_marks Try.func21 rfl trivial ?_ rfl
  simp only [Try.ntmps21, List.size_toArray, List.length_cons, List.length_nil, Nat.reduceAdd, Nat.reduceSub, Array.replicate_succ, Array.replicate_zero, List.push_toArray, List.append_toArray, List.nil_append, List.cons_append]
  gi_wp2_with fail
  refine ⟨trivial, (callsIn_wide.2 (each_any _ _ _ _ _ rfl)).mono ?_⟩
  rintro e w1 ⟨rfl, rfl⟩
  gi_wp2
  have hsl := (one_slice (hv.ext (((Ext.rfl' w).al (.cells #[.int .i64 t.k, .int .i64 t.i, .string t.s, .slice A t.ar.length c] 24)).al (.cells #[.bool false] 4))) 24 (w.heap.size + 1 + 1) (by simp)).ext ((Ext.rfl' _).al (.cells #[.slice (some ⟨w.heap.size + 1 + 1, 0, none⟩) 1 1] 22))
  obtain ⟨W0, hW0⟩ : ∃ W0, ((((w.alloc (.cells #[.int .i64 t.k, .int .i64 t.i, .string t.s, .slice A t.ar.length c] 24)).alloc (.cells #[.bool false] 4)).alloc (.cells #[.int .i64 t.k, .int .i64 t.i, .string t.s, .slice A t.ar.length c] 24)).alloc (.cells #[.slice (some ⟨w.heap.size + 1 + 1, 0, none⟩) 1 1] 22)) = W0 := ⟨_, rfl⟩
  have hE : Ext w W0 := by rw [← hW0]; exact ((((Ext.rfl' w).al _).al _).al _).al _
  have hz : W0.heap.size = w.heap.size + 1 + 1 + 1 + 1 := by rw [← hW0]; simp
  have hR : Boxed W0 (w.heap.size + 1) 4 (.bool false) := by rw [← hW0]; exact ((boxed2 _ _ _ _).alloc _).alloc _
  have hX : W0.cell? ⟨w.heap.size + 1 + 1 + 1, 0, none⟩ = some (.slice (some ⟨w.heap.size + 1 + 1, 0, none⟩) 1 1) := by
    rw [← hW0]
    exact (show Boxed _ (w.heap.size + 1 + 1 + 1) 22 _ by
      have := Boxed.new (((w.alloc (.cells #[.int .i64 t.k, .int .i64 t.i, .string t.s, .slice A t.ar.length c] 24)).alloc (.cells #[.bool false] 4)).alloc (.cells #[.int .i64 t.k, .int .i64 t.i, .string t.s, .slice A t.ar.length c] 24)) 22 (.slice (some ⟨w.heap.size + 1 + 1, 0, none⟩) 1 1)
      simpa using this).cell
  rw [hW0] at hsl ⊢
  clear hW0
  have hB0 : Below w.heap.size w W0 := hE
  refine wpIn_rangeFunc_ownF rfl (by omega) (gf := 77) (lb := #[.pointer (some ⟨w.heap.size + 1 + 1 + 1, 0, none⟩)]) rfl trivial (enters_of Try.func77 (by kernel_rfl) rfl)
    (each_stops d hd 2 (w.heap.size + 1 + 1 + 1) [t] _ W0 (by simpa [wtL] using hn) hX hsl) belowK_t (belowK_b (by omega)) (Below.refl _ _) (fun _ => rfl)
    (fun pre W => (pre = [] ∧ W.cell? ⟨w.heap.size + 1, 0, none⟩ = some (.bool false) ∧ W.frozen? ⟨w.heap.size + 1, 0, none⟩ = false) ∧ Below w.heap.size w W)
    (fun c pre W => (c = .ret ∧ pre ≠ [] ∧ W.cell? ⟨w.heap.size + 1, 0, none⟩ = some (.bool false)) ∧ Below w.heap.size w W)
    (OwnFrom.and (Own.from (fun s A B row hs hg hr => ⟨hs.1, cell_kept hs.2.1 hg hr, (frozen_kept hs.2.1 hg hr).trans hs.2.2⟩) _) (ownFrom_below (Nat.le_refl _) (by omega)))
    (fun c => OwnFrom.and (Own.from (fun s A B row hs hg hr => ⟨hs.1, hs.2.1, cell_kept hs.2.2 hg hr⟩) _) (ownFrom_below (Nat.le_refl _) (by omega)))
    ⟨⟨rfl, hR.cell, hR.frozen⟩, hB0⟩
    (fun x => { tmps := #[.agg #[.int .i64 t.k, .int .i64 t.i, .string t.s, .slice A t.ar.length c], .pointer (some ⟨w.heap.size, 0, none⟩), .pointer (some ⟨w.heap.size + 1, 0, none⟩), .agg #[.int .i64 t.k, .int .i64 t.i, .string t.s, .slice A t.ar.length c], .slice (some ⟨w.heap.size + 1 + 1, 0, none⟩) 1 1, .func (.func 77) #[] #[.pointer (some ⟨w.heap.size + 1 + 1 + 1, 0, none⟩)], .int .i64 x], defers := [] }) ?assign ?body ?done ?stop
  case assign =>
    intro l x W K hK
    gi_wp2
    simpa using hK
  case body =>
    rintro l pre x W ⟨⟨hp, hcr, hfr⟩, hB⟩ _
    gi_wp2
    exact ⟨KeepsOthers.setCell _ _ _, ⟨rfl, by simp, World.cell?_setCell_same' _ _ _ (by rw [hcr]; rfl)⟩, hB.setCell (p := ⟨w.heap.size + 1, 0, none⟩) (by simp) _⟩
  case done =>
    rintro D ys W hD rfl ⟨⟨hne, hcr, hfr⟩, hB⟩ hK
    rw [occL_one] at hne
    have HG : Hid (groundT t = true) := Lib.hid (by unfold groundT; rw [hne]; rfl)
    gi_wp2
    have hK' := (KeepsOthers.setCell W ⟨w.heap.size + 1, 0, none⟩ (.bool true)).same D _ hK rfl
    refine ⟨by simp, .inl ⟨_, _, rfl, run_takeDeferred hK', ?_⟩⟩
    have hc5 := cell_kept (World.cell?_setCell_same' W ⟨w.heap.size + 1, 0, none⟩ (.bool true) (by rw [hcr]; rfl)) (grownBy_putObj' _ D (.deferred none)) (fun r e => by cases e; exact ⟨_, hK', rfl⟩)
    refine ⟨.bool true, ?_, Ret.mk (HG.out ▸ rfl) ((hB.setCell (p := ⟨w.heap.size + 1, 0, none⟩) (by simp) _).trans (belowK_b (w := w) (Nat.le_refl _) _ D _ _ (by omega) hK' rfl rfl))⟩
    simp [results, Try.f21, go_sem, hc5]
  case stop =>
    rintro D c pre W hD hpre ⟨⟨rfl, hin, hcr⟩, hB⟩ hK
    rw [occL_one] at hpre
    have HG : Hid (groundT t = false) := Lib.hid (by
      unfold groundT
      cases h : occT t
      · rw [h] at hpre; exact absurd (List.prefix_nil.1 hpre) hin
      · rfl)
    gi_wp2
    refine ⟨by simp, .inl ⟨_, _, rfl, run_takeDeferred hK, ?_⟩⟩
    have hc5 := cell_kept hcr (grownBy_putObj' _ D (.deferred none)) (fun r e => by cases e; exact ⟨_, hK, rfl⟩)
    refine ⟨.bool false, ?_, Ret.mk (HG.out ▸ rfl) (hB.trans (belowK_b (w := w) (Nat.le_refl _) W D _ _ (by omega) hK rfl rfl))⟩
    simp [results, Try.f21, go_sem, hc5]
end Go.Proofs.Ytcjbageaiafbmaa
