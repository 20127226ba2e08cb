/-
  Which terms are valid: the plain law, and the walks of the program's budget and of the reference's form.
-/
import Derived.Test.YtcjbageaiafbmaaSizeW
import Derived.Test.YtcjbageaiafbmaaName
import Derived.RangeFuncBox
namespace Go.Proofs.Ytcjbageaiafbmaa
open Go.RowKit

mutual
noncomputable def formT : T → Bool
  | .mk k i s ar =>
    if k = 0 then decide (-2147483648 ≤ i ∧ i ≤ 2147483648 ∧ s.toList = [] ∧ ar.length = 0)
    else if k = 1 then decide (0 ≤ i ∧ i ≤ 1048576 ∧ s.toList = [] ∧ ar.length = 0)
    else if k = 2 then (decide (i = 0) && ((isOp s && decide (ar.length = 2)) || (isName s && decide (ar.length ≤ 6)))) && formL ar
    else false
noncomputable def formL : List T → Bool
  | [] => true
  | t :: ts => formT t && formL ts
end
/-- What is asked of a functor's own parts. -/
noncomputable def headF (t : T) : Bool := decide (t.i = 0) && ((isOp t.s && decide (t.ar.length = 2)) || (isName t.s && decide (t.ar.length ≤ 6)))
theorem formT_0 {t : T} (h : t.k = 0) : formT t = decide (-2147483648 ≤ t.i ∧ t.i ≤ 2147483648 ∧ t.s.toList = [] ∧ t.ar.length = 0) := by
  cases t; simp only [T.k] at h; subst h; simp [formT, T.i, T.s, T.ar]
theorem formT_1 {t : T} (h : t.k = 1) : formT t = decide (0 ≤ t.i ∧ t.i ≤ 1048576 ∧ t.s.toList = [] ∧ t.ar.length = 0) := by
  cases t; simp only [T.k] at h; subst h; simp [formT, T.i, T.s, T.ar]
theorem formT_2 {t : T} (h : t.k = 2) : formT t = (headF t && formL t.ar) := by
  cases t; simp only [T.k] at h; subst h; simp only [formT, headF, T.i, T.s, T.ar]; rfl
theorem formT_3 {t : T} (h0 : t.k ≠ 0) (h1 : t.k ≠ 1) (h2 : t.k ≠ 2) : formT t = false := by
  cases t; simp only [T.k] at h0 h1 h2; simp [formT, h0, h1, h2]
theorem formL_app (a b : List T) : formL (a ++ b) = (formL a && formL b) := by
  induction a with
  | nil => simp [formL]
  | cons t a ih => simp only [List.cons_append, formL, ih, Bool.and_assoc]

/-- So much of a budget, and so much depth, is enough for a valid term. -/
def Holds1 (t : T) (b d : Int) : Prop := formT t = true ∧ (sizeT t : Int) ≤ b ∧ (depthT t : Int) ≤ d
def HoldsL (l : List T) (b d : Int) : Prop := formL l = true ∧ (sizeL l : Int) ≤ b ∧ (depthL l : Int) ≤ d

/-- What the budget's functions return. -/
def Bud (W : World) (B : Nat) (ok : Prop) (n : Int) (e : Ending) (w' : World) : Prop :=
  ∃ r : Bool, e = .returned (.bool r) ∧ (r = true ↔ ok) ∧ Ext W w' ∧ (r = true → Boxed w' B 58 (.int .i64 n))

theorem Bud.mk {W : World} {B : Nat} {ok : Prop} {n : Int} {r : Bool} {w' : World} (h : r = true ↔ ok) (he : Ext W w') (hb : r = true → Boxed w' B 58 (.int .i64 n)) : Bud W B ok n (.returned (.bool r)) w' :=
  ⟨r, rfl, h, he, hb⟩
theorem Bud.no {W : World} {B : Nat} {ok : Prop} {n : Int} {w' : World} (h : ¬ ok) (he : Ext W w') : Bud W B ok n (.returned (.bool false)) w' :=
  ⟨false, rfl, by simp [h], he, by simp⟩
theorem bud_cells (w : World) (p : Addr) (v : Value) (cs : Array Value) (t : TypeId) (j : Nat) (u : Value) (h : cs[j]? = some u) : ((w.setCell p v).alloc (.cells cs t)).cell? ⟨w.heap.size, j, none⟩ = some u := by
  have hz : (w.setCell p v).heap.size = w.heap.size := by simp [World.setCell]
  rcases Rd.newAt (w.setCell p v) _ cs t hz with h0 | ⟨ad, ha, hc⟩
  · rw [← Array.getElem?_toList, h0] at h; simp at h
  · have := hc j u (by rw [Array.getElem?_toList]; exact h)
    injection ha with ha
    subst ha
    by_cases hj : j = 0
    · subst hj; simpa [Addr.add] using this
    · simpa [Addr.add, hj] using this

theorem leaf {t : T} {b d : Int} {Q : Prop} [Decidable Q] (HF : formT t = decide Q) (hu : t.used = []) (hb : 1 ≤ b) (hd : 1 ≤ d) {r : Bool} (hr : r = true ↔ Q) : r = true ↔ Holds1 t b d := by
  unfold Holds1
  rw [hr, HF, sizeT_eq, depthT_eq, hu]
  simp only [sizeL, depthL, decide_eq_true_eq]
  constructor
  · intro h; exact ⟨h, by omega, by omega⟩
  · intro h; exact h.1
theorem size_leaf {t : T} (hu : t.used = []) : sizeT t = 1 := by rw [sizeT_eq, hu]; rfl

theorem functor {t : T} {b d : Int} (k2 : t.k = 2) : Holds1 t b d ↔ (headF t = true ∧ HoldsL t.ar (b - 1) (d - 1)) := by
  have hu : t.used = t.ar := by unfold T.used; rw [if_pos k2]
  unfold Holds1 HoldsL
  rw [formT_2 k2, sizeT_eq, depthT_eq, hu, Bool.and_eq_true]
  constructor
  · rintro ⟨⟨h1, h2⟩, h3, h4⟩
    exact ⟨h1, h2, by omega, by omega⟩
  · rintro ⟨h1, h2, h3, h4⟩
    exact ⟨⟨h1, h2⟩, by omega, by omega⟩

set_option maxHeartbeats 1000000 in
theorem valid_step (n : Nat) (W : World) (B : Nat) (hB : W.heap.size ≤ B)
    (HA : Hid (∀ (l : List T) (v : Value) (b d : Int) (w : World), wtL l ≤ n → SlT W l v → Ext W w → Boxed w B 58 (.int .i64 b) → 0 ≤ b → b ≤ 1000 → d ≤ 1000 → 0 ≤ d → Calls Try.prog 65 #[.pointer (some ⟨B, 0, none⟩), v, .int .i64 d] w (Bud W B (HoldsL l b d) (b - sizeL l))))
    (t : T) (v : Value) (b d : Int) (w : World) (hn : wtL t.ar ≤ n) (hv : VT W t v) (he : Ext W w) (hb : Boxed w B 58 (.int .i64 b)) (h0 : 0 ≤ b) (h1 : b ≤ 1000) (hd : d ≤ 1000) :
    Calls Try.prog 48 #[.pointer (some ⟨B, 0, none⟩), v, .int .i64 d] w (Bud W B (Holds1 t b d) (b - sizeT t)) := by
  obtain ⟨sl, rfl, hs, -⟩ := hv.open_
  have hs' := hide hs
  obtain ⟨A, c, xs, rfl, hr⟩ := hs
  have cB := hb.cell
  have fB := hb.frozen
  have hlt := hb.lt
  have HE1 : Hid (∀ o, Ext W ((w.setCell ⟨B, 0, none⟩ (.int .i64 (b - 1))).alloc o)) := Lib.hid fun o => Ext.al (Below.setCell he (p := ⟨B, 0, none⟩) hB _) _
  have HB1 : Hid (∀ o, Boxed ((w.setCell ⟨B, 0, none⟩ (.int .i64 (b - 1))).alloc o) B 58 (.int .i64 (b - 1))) := Lib.hid fun o => (hb.set _).alloc _
  have HS := Lib.hid (sizeT_eq t)
  have HD := Lib.hid (depthT_eq t)
  have HN := Lib.hid hn
  clear hv hn hr
  by_cases hb1 : b < 1
  · have HF : Hid (¬ Holds1 t b d) := Lib.hid fun h => by have := h.2.1; have := HS.out; omega
    go_enter Try.func48, Try.ntmps48
    go_wp2
    go_ret
    exact Bud.no HF.out (HE1.out _)
  by_cases hd1 : d < 1
  · have HF : Hid (¬ Holds1 t b d) := Lib.hid fun h => by have := h.2.2; have := HD.out; omega
    go_enter Try.func48, Try.ntmps48
    go_wp2
    go_ret
    exact Bud.no HF.out (HE1.out _)
  have hb2 : ¬ b - 1 < 0 := by omega
  by_cases k0 : t.k = 0
  · have hk : (t.k == 0) = true := by simpa using k0
    have HF := Lib.hid (formT_0 k0)
    have HU : Hid (t.used = []) := Lib.hid (by unfold T.used; rw [if_neg (by omega)])
    clear k0
    go_enter Try.func48, Try.ntmps48
    go_wp2
    all_goals go_ret
    all_goals refine Bud.mk (leaf HF.out HU.out (by omega) (by omega) ?_) (HE1.out _) (fun _ => by rw [size_leaf HU.out]; exact HB1.out _)
    all_goals simp [*]
    all_goals omega
  by_cases k1 : t.k = 1
  · have hk0 : (t.k == 0) = false := by simpa using k0
    have hk : (t.k == 1) = true := by simpa using k1
    have HF := Lib.hid (formT_1 k1)
    have HU : Hid (t.used = []) := Lib.hid (by unfold T.used; rw [if_neg (by omega)])
    clear k0 k1
    go_enter Try.func48, Try.ntmps48
    go_wp2
    all_goals go_ret
    all_goals refine Bud.mk (leaf HF.out HU.out (by omega) (by omega) ?_) (HE1.out _) (fun _ => by rw [size_leaf HU.out]; exact HB1.out _)
    all_goals simp [*]
    all_goals omega
  have hk0 : (t.k == 0) = false := by simpa using k0
  have hk1 : (t.k == 1) = false := by simpa using k1
  by_cases k2 : t.k = 2
  · have hk : (t.k == 2) = true := by simpa using k2
    have HF := Lib.hid (formT_2 k2)
    have HU : Hid (t.used = t.ar) := Lib.hid (by unfold T.used; rw [if_pos k2])
    have HW : Hid (Holds1 t b d ↔ (headF t = true ∧ HoldsL t.ar (b - 1) (d - 1))) := Lib.hid (functor k2)
    have HZ : Hid (b - (sizeT t : Int) = b - 1 - sizeL t.ar) := Lib.hid (by have := HS.out; rw [HU.out] at this; omega)
    clear k0 k1 k2
    by_cases hj : ¬ t.i = 0
    · have hi := hj
      have hni : (t.i != 0) = true := by simpa using hi
      have HN : Hid (¬ Holds1 t b d) := Lib.hid fun h => by have := (HW.out.1 h).1; simp [headF, hi] at this
      clear hi hj
      go_enter Try.func48, Try.ntmps48
      go_wp2
      go_ret
      exact Bud.no HN.out (HE1.out _)
    have hi : t.i = 0 := by simpa using hj
    clear hj
    have hni : (t.i != 0) = false := by simpa using hi
    by_cases h6 : 6 < t.ar.length
    · have HN : Hid (¬ Holds1 t b d) := Lib.hid fun h => by have := (HW.out.1 h).1; simp [headF, hi] at this; omega
      clear hi
      go_enter Try.func48, Try.ntmps48
      go_wp2
      go_ret
      exact Bud.no HN.out (HE1.out _)
    have HH : Hid (headF t = ((isOp t.s && decide (t.ar.length = 2)) || isName t.s)) := Lib.hid (by unfold headF; rw [decide_eq_true (show t.ar.length ≤ 6 by omega)]; simp [hi])
    clear hi
    have hnm := hide (name_any t.s)
    have hop := hide (operator_any t.s)
    cases hn : isName t.s <;> rw [hn] at hnm
    · cases ho : isOp t.s <;> rw [ho] at hop
      · have HN : Hid (¬ Holds1 t b d) := Lib.hid fun h => by have := (HW.out.1 h).1; rw [HH.out, hn, ho] at this; simp at this
        clear hn ho
        go_enter Try.func48, Try.ntmps48
        go_wp2_with fail
        refine ((unhide hnm) _).mono ?_
        rintro e w1 ⟨v, rfl, hv, he1⟩
        obtain rfl : v = _ := hv
        have z2 := he1.cellOf (bud_cells w _ _ _ _ 2 _ rfl)
        have z3 := he1.cellOf (bud_cells w _ _ _ _ 3 _ rfl)
        have HE2 := hide ((HE1.out _).tr he1)
        go_wp2_with fail
        refine ((unhide hop) _).mono ?_
        rintro e w2 ⟨rfl, rfl⟩
        go_wp2
        go_ret
        exact Bud.no HN.out (unhide HE2)
      · by_cases h2 : t.ar.length = 2
        · have HT : Hid (headF t = true) := Lib.hid (by rw [HH.out, ho]; simp [h2])
          have h2b : ((t.ar.length : Int) == 2) = true := by simp [h2]
          clear hn ho h2
          go_enter Try.func48, Try.ntmps48
          go_wp2_with fail
          refine ((unhide hnm) _).mono ?_
          rintro e w1 ⟨v, rfl, hv, he1⟩
          obtain rfl : v = _ := hv
          have z2 := he1.cellOf (bud_cells w _ _ _ _ 2 _ rfl)
          have z3 := he1.cellOf (bud_cells w _ _ _ _ 3 _ rfl)
          have HE2 := hide ((HE1.out _).tr he1)
          have HB2 : Hid (Boxed w1 B 58 (.int .i64 (b - 1))) := Lib.hid ((he1.block B (HB1.out _).lt).trans (HB1.out _))
          go_wp2_with fail
          refine ((unhide hop) _).mono ?_
          rintro e w2 ⟨rfl, rfl⟩
          go_wp2_with fail
          refine (HA.out t.ar _ (b - 1) (d - 1) _ HN.out ((unhide hs')) (unhide HE2) HB2.out (by omega) (by omega) (by omega) (by omega)).mono ?_
          rintro e w3 ⟨r, rfl, hr3, he3, hb3⟩
          have hr3 := hide hr3
          have hb3 := hide hb3
          have he3 := hide he3
          clear hnm hop
          go_wp2
          go_ret
          refine Bud.mk ?_ (unhide he3) (fun h => by rw [HZ.out]; exact (unhide hb3) h)
          rw [HW.out, HT.out, unhide hr3]
          simp
        · have HN : Hid (¬ Holds1 t b d) := Lib.hid fun h => by have := (HW.out.1 h).1; rw [HH.out, hn, ho] at this; simp [h2] at this
          have h2b : ((t.ar.length : Int) == 2) = false := by simp; omega
          clear hn ho h2
          go_enter Try.func48, Try.ntmps48
          go_wp2_with fail
          refine ((unhide hnm) _).mono ?_
          rintro e w1 ⟨v, rfl, hv, he1⟩
          obtain rfl : v = _ := hv
          have z2 := he1.cellOf (bud_cells w _ _ _ _ 2 _ rfl)
          have z3 := he1.cellOf (bud_cells w _ _ _ _ 3 _ rfl)
          have HE2 := hide ((HE1.out _).tr he1)
          have HB2 : Hid (Boxed w1 B 58 (.int .i64 (b - 1))) := Lib.hid ((he1.block B (HB1.out _).lt).trans (HB1.out _))
          go_wp2_with fail
          refine ((unhide hop) _).mono ?_
          rintro e w2 ⟨rfl, rfl⟩
          go_wp2
          go_ret
          exact Bud.no HN.out (unhide HE2)
    · have HT : Hid (headF t = true) := Lib.hid (by rw [HH.out, hn]; simp)
      clear hn
      go_enter Try.func48, Try.ntmps48
      go_wp2_with fail
      refine ((unhide hnm) _).mono ?_
      rintro e w1 ⟨v, rfl, hv, he1⟩
      obtain rfl : v = _ := hv
      have z2 := he1.cellOf (bud_cells w _ _ _ _ 2 _ rfl)
      have z3 := he1.cellOf (bud_cells w _ _ _ _ 3 _ rfl)
      have HE2 := hide ((HE1.out _).tr he1)
      have HB2 : Hid (Boxed w1 B 58 (.int .i64 (b - 1))) := Lib.hid ((he1.block B (HB1.out _).lt).trans (HB1.out _))
      go_wp2_with fail
      refine (HA.out t.ar _ (b - 1) (d - 1) _ HN.out ((unhide hs')) (unhide HE2) HB2.out (by omega) (by omega) (by omega) (by omega)).mono ?_
      rintro e w3 ⟨r, rfl, hr3, he3, hb3⟩
      have hr3 := hide hr3
      have hb3 := hide hb3
      have he3 := hide he3
      clear hnm hop
      go_wp2
      go_ret
      refine Bud.mk ?_ (unhide he3) (fun h => by rw [HZ.out]; exact (unhide hb3) h)
      rw [HW.out, HT.out, unhide hr3]
      simp
  have hk2 : (t.k == 2) = false := by simpa using k2
  have HF : Hid (¬ Holds1 t b d) := Lib.hid fun h => by have := h.1; rw [formT_3 k0 k1 k2] at this; simp at this
  clear k0 k1 k2
  go_enter Try.func48, Try.ntmps48
  go_wp2
  go_ret
  exact Bud.no HF.out (HE1.out _)
def AllRel (W : World) (B : Nat) (l : List T) (b d : Int) (v10 : Value) (wr : World) : Prop :=
  ∃ k : Nat, v10 = .int .i64 (k : Int) ∧ k ≤ l.length ∧ Ext W wr ∧ Hid (HoldsL (l.take k) b d) ∧ Boxed wr B 58 (.int .i64 (b - sizeL (l.take k)))
theorem holds_snoc {l : List T} {k : Nat} {t : T} {b d : Int} (ht : l[k]? = some t) (h : HoldsL (l.take k) b d) : HoldsL (l.take (k + 1)) b d ↔ Holds1 t (b - sizeL (l.take k)) d := by
  unfold HoldsL Holds1 at *
  rw [take_snocT ht, formL_app, sizeL_app, depthL_app]
  simp only [formL, sizeL, depthL, Bool.and_eq_true, and_true]
  obtain ⟨h1, h2, h3⟩ := h
  constructor
  · rintro ⟨⟨-, a⟩, b, c⟩; exact ⟨a, by omega, by omega⟩
  · rintro ⟨a, b, c⟩; exact ⟨⟨h1, a⟩, by omega, by omega⟩
theorem holds_take {l : List T} {k : Nat} {b d : Int} (h : HoldsL l b d) : HoldsL (l.take k) b d := by
  unfold HoldsL at *
  rw [← List.take_append_drop k l, formL_app, sizeL_app, depthL_app, Bool.and_eq_true] at h
  obtain ⟨⟨h1, -⟩, h2, h3⟩ := h
  exact ⟨h1, by omega, by omega⟩

theorem all_step (n : Nat) (hM : n ≤ 1000000) (W : World) (B : Nat)
    (HV : Hid (∀ (t : T) (v : Value) (b d : Int) (w : World), wt t ≤ n → VT W t v → Ext W w → Boxed w B 58 (.int .i64 b) → 0 ≤ b → b ≤ 1000 → d ≤ 1000 → Calls Try.prog 48 #[.pointer (some ⟨B, 0, none⟩), v, .int .i64 d] w (Bud W B (Holds1 t b d) (b - sizeT t))))
    (l : List T) (v : Value) (b d : Int) (w : World) (hn : wtL l ≤ n) (hv : SlT W l v) (he : Ext W w) (hb : Boxed w B 58 (.int .i64 b)) (h0 : 0 ≤ b) (h1 : b ≤ 1000) (hd : d ≤ 1000) (hd0 : 0 ≤ d) :
    Calls Try.prog 65 #[.pointer (some ⟨B, 0, none⟩), v, .int .i64 d] w (Bud W B (HoldsL l b d) (b - sizeL l)) := by
  have hv' := hide hv
  obtain ⟨A, c, xs, rfl, hr⟩ := hv
  have hll : l.length ≤ n := by have := len_wtL l; omega
  have HN := Lib.hid hn
  clear hr hn
  go_enter Try.func65, Try.ntmps65
  go_wp2
  go_loopw [7, 10] (fun _ v10 wr => AllRel W B l b d v10 wr) (fun _ v10 _ => l.length - (intOf v10).toNat)
  case atStart => exact ⟨0, rfl, by omega, he, Lib.hid ⟨rfl, by simpa [sizeL] using h0, by simpa [depthL] using hd0⟩, by simpa [sizeL] using hb⟩
  case round =>
    obtain ⟨k, rfl, hk, hE, hH, hB⟩ := hrel
    by_cases hlt : k < l.length
    · obtain ⟨t, ht⟩ : ∃ t, l[k]? = some t := ⟨l[k], List.getElem?_eq_getElem hlt⟩
      obtain ⟨B2, o, sl, rfl, e0, e1, e2, e3, hs, hvt⟩ := (unhide hv').at_ ht
      have c0 := hE.cellOf e0
      have c1 := hE.cellOf e1
      have c2 := hE.cellOf e2
      have c3 := hE.cellOf e3
      have hvW := hide hvt
      clear e0 e1 e2 e3
      obtain ⟨A2, d2, xs2, rfl, -⟩ := hs
      have HT := Lib.hid (holds_snoc ht hH.out)
      have HZ : Hid (b - (sizeL (l.take (k + 1)) : Int) = b - sizeL (l.take k) - sizeT t) := Lib.hid (by rw [take_snocT ht, sizeL_app]; simp only [sizeL]; omega)
      have HU : Hid (wt t ≤ n) := Lib.hid (by have := wt_mem (List.mem_of_getElem? ht); have := HN.out; omega)
      have hz : 0 ≤ b - (sizeL (l.take k) : Int) := by have := hH.out.2.1; omega
      clear ht hvt
      have hz2 := hide hz
      clear hz
      go_wp2_with fail
      refine (HV.out t _ _ d _ HU.out (unhide hvW) hE hB (unhide hz2) (by omega) hd).mono ?_
      rintro e w1 ⟨r, rfl, hr, he1, hb1⟩
      have hr := hide hr
      have hb1 := hide hb1
      cases r
      · have HF : Hid (¬ HoldsL l b d) := Lib.hid fun h => by
          have := (unhide hr).2 (HT.out.1 (holds_take h))
          simp at this
        go_wp2
        go_ret
        exact Bud.no HF.out he1
      · have HI : Hid (HoldsL (l.take (k + 1)) b d) := Lib.hid (HT.out.2 ((unhide hr).1 rfl))
        have HB : Boxed w1 B 58 (.int .i64 (b - sizeL (l.take (k + 1)))) := by rw [HZ.out]; exact (unhide hb1) rfl
        go_wp2
        go_roundw
        case rel => exact ⟨k + 1, by go_num, by omega, he1, HI, HB⟩
        case measure => simp [intOf]; omega
    · have hl : l.take k = l := List.take_of_length_le (by omega)
      rw [hl] at hH hB
      go_wp2
      go_ret
      exact Bud.mk (by simpa using hH.out) hE (fun _ => hB)
theorem valid_any (W : World) (B : Nat) (hB : W.heap.size ≤ B) : ∀ (n : Nat), n ≤ 1000000 → ∀ (t : T) (v : Value) (b d : Int) (w : World), wt t ≤ n → VT W t v → Ext W w → Boxed w B 58 (.int .i64 b) → 0 ≤ b → b ≤ 1000 → d ≤ 1000 → Calls Try.prog 48 #[.pointer (some ⟨B, 0, none⟩), v, .int .i64 d] w (Bud W B (Holds1 t b d) (b - sizeT t))
  | 0, _, t, _, _, _, _, hn, _, _, _, _, _, _ => by rw [wt_eq] at hn; omega
  | n + 1, hM, t, v, b, d, w, hn, hv, he, hb, h0, h1, hd =>
    valid_step n W B hB (Lib.hid fun l v b d w g1 g2 g3 g4 g5 g6 g7 g8 => all_step n (by omega) W B (Lib.hid (valid_any W B hB n (by omega))) l v b d w g1 g2 g3 g4 g5 g6 g7 g8) t v b d w (by rw [wt_eq] at hn; omega) hv he hb h0 h1 hd
theorem all_any (W : World) (B : Nat) (hB : W.heap.size ≤ B) (n : Nat) (hM : n ≤ 1000000) (l : List T) (v : Value) (b d : Int) (w : World) (hn : wtL l ≤ n) (hv : SlT W l v) (he : Ext W w) (hb : Boxed w B 58 (.int .i64 b)) (h0 : 0 ≤ b) (h1 : b ≤ 1000) (hd : d ≤ 1000) (hd0 : 0 ≤ d) :
    Calls Try.prog 65 #[.pointer (some ⟨B, 0, none⟩), v, .int .i64 d] w (Bud W B (HoldsL l b d) (b - sizeL l)) :=
  all_step n hM W B (Lib.hid (valid_any W B hB n hM)) l v b d w hn hv he hb h0 h1 hd hd0

/-- A valid term: well formed, at most 200 nodes, at most 20 deep. -/
noncomputable def rightT (t : T) : Bool := formT t && decide (sizeT t ≤ 200) && decide (depthT t ≤ 20)
theorem rightT_iff (t : T) : rightT t = true ↔ Holds1 t 200 20 := by
  unfold rightT Holds1
  simp only [Bool.and_eq_true, decide_eq_true_eq]
  constructor
  · rintro ⟨⟨a, b⟩, c⟩; exact ⟨a, by omega, by omega⟩
  · rintro ⟨a, b, c⟩; exact ⟨⟨a, by omega⟩, by omega⟩
theorem boxed2 (w : World) (o : Obj) (t : TypeId) (v : Value) : Boxed ((w.alloc o).alloc (.cells #[v] t)) (w.heap.size + 1) t v := by
  have h := Boxed.new (w.alloc o) t v
  have hz : (w.alloc o).heap.size = w.heap.size + 1 := by simp
  rwa [hz] at h
theorem right_any (n : Nat) (hM : n ≤ 1000000) (t : T) (v : Value) (w : World) (hn : wt t ≤ n) (hv : VT w t v) : Calls Try.prog 11 #[v] w (Ret w (Is (.bool (rightT t)))) := by
  have hC := hide (fun (w' : World) (e : Ext w w') (hb : Boxed w' (w.heap.size + 1) 58 (.int .i64 200)) => valid_any w (w.heap.size + 1) (by omega) n hM t v 200 20 w' hn hv e hb (by omega) (by omega) (by omega))
  have hW := Lib.hid (rightT_iff t)
  obtain ⟨sl, rfl, hs, -⟩ := hv.open_
  obtain ⟨A, c, xs, rfl, -⟩ := hs
  clear hv hn
  go_enter Try.func11, Try.ntmps11
  go_wp2_with fail
  refine ((unhide hC) _ (((Ext.rfl' w).al _).al _) (boxed2 _ _ _ _)).mono ?_
  rintro e w1 ⟨r, rfl, hr, he, -⟩
  have hr := hide hr
  go_wp2
  go_ret
  refine Ret.mk ?_ he
  show Value.bool _ = Value.bool _
  congr 1
  rw [Bool.eq_iff_iff, hW.out, unhide hr]

end Go.Proofs.Ytcjbageaiafbmaa
