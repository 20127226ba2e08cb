/-
  The walk of term.walk inside a range over a function: the variables of a term, in their order.
-/
import Derived.Test.YtcjbageaiafbmaaSizeW
import Derived.RangeFuncNested
import Derived.RangeFuncBound
import Derived.RangeFuncCalls
import Derived.RangeFuncLeaves
import Derived.Shelf.Abstract
import Derived.WalkKit
import Derived.OwnWalkIn
import Derived.TacticsInMore
import Derived.LoopNIn
import Derived.LoopIn
namespace Go.Proofs.Ytcjbageaiafbmaa
open Go.RowKit Go.Shelf
attribute [local go_sem] Oper.semAt_some

mutual
/-- The variables of a term, each place of theirs, in order. -/
def occT : T → List Int
  | .mk k i _ ar => if k = 1 then [i] else if k = 2 then occL ar else []
def occL : List T → List Int
  | [] => []
  | t :: ts => occT t ++ occL ts
end
theorem occT_var {t : T} (h : t.k = 1) : occT t = [t.i] := by cases t; simp only [T.k] at h; subst h; simp [occT, T.i]
theorem occT_eq {t : T} (h : t.k ≠ 1) : occT t = occL t.used := by
  obtain ⟨k, i, s, ar⟩ := t
  simp only [T.k] at h
  unfold T.used
  simp only [occT, if_neg h, T.k, T.ar]
  by_cases h2 : k = 2
  · simp [h2]
  · simp [h2, occL]
theorem occL_app (a b : List T) : occL (a ++ b) = occL a ++ occL b := by
  induction a with
  | nil => simp [occL]
  | cons t a ih => simp only [List.cons_append, occL, ih, List.append_assoc]

/-- What has come when a walk is over: all of it, or a part, a round having said 'no more'. -/
def Came (W0 : World) (J Jx : List Int → World → Prop) (pre xs : List Int) (e : Ending) (W' : World) : Prop :=
  (e = .returned (.bool true) ∧ J (pre ++ xs) W' ∧ Ext W0 W') ∨ (e = .returned (.bool false) ∧ ∃ q, q <+: xs ∧ Jx (pre ++ q) W')
/-- What a round is. -/
def Round (W0 : World) (l N : Nat) (J Jx : List Int → World → Prop) : Prop :=
  ∀ m pre x W, I64 x → J pre W → Ext W0 W → pre.length < N → YieldAt Fence.wide m Try.prog l #[.int .i64 x] W fun e W' =>
      (e = .returned (.bool true) ∧ J (pre ++ [x]) W' ∧ Ext W0 W') ∨ (e = .returned (.bool false) ∧ Jx (pre ++ [x]) W')
/-- What is said of what has come outlives new blocks. -/
def Lives (J : List Int → World → Prop) : Prop := ∀ s W W', J s W → Ext W W' → J s W'

theorem walk_var (W0 : World) (l N : Nat) (J Jx : List Int → World → Prop) (hJ : Lives J) (hY : Round W0 l N J Jx) (t : T) (h1 : t.k = 1) (n : Nat) (v : Value) (pre : List Int) (W : World) (hv : VT W0 t v) (he : Ext W0 W) (h0 : J pre W) (hN : pre.length + (occT t).length ≤ N) :
    CallsIn Fence.wide n Try.prog 78 #[v, .func (.yield l) #[] #[]] W (Came W0 J Jx pre (occT t)) := by
  obtain ⟨sl, rfl, hs, -, hi, -⟩ := hv.open_
  obtain ⟨A, c, xs, rfl, -⟩ := hs
  rw [occT_var h1] at hN ⊢
  have hk : (t.k == 1) = true := by simpa using h1
  clear h1
  have hN' : pre.length < N := by simp at hN; omega
  obtain ⟨fn, tmps, assign, body, hy, hR⟩ := hY (n - 1) pre t.i (W.alloc (.cells #[.int .i64 t.k, .int .i64 t.i, .string t.s, .slice A t.ar.length c] 24)) hi (hJ _ _ _ h0 ((Ext.rfl' W).al _)) (he.al _) hN'
  clear hi
  refine callsIn_of_wp Try.func78 rfl trivial ?_ rfl
  simp only [Try.ntmps78, List.size_toArray, List.length_cons, List.length_nil, Nat.reduceAdd, Nat.reduceSub, Array.replicate_succ, Array.replicate_zero, List.push_toArray, List.append_toArray, List.nil_append, List.cons_append]
  gi_wp2_with ((try refine ⟨fun h => (by cases h), ?_⟩); refine hR.mono ?_; clear hR; rintro e W2 (⟨rfl, hJ2, hb2⟩ | ⟨rfl, hx2⟩))
  · go_ret
    exact .inl ⟨rfl, hJ2, hb2⟩
  · go_ret
    exact .inr ⟨rfl, [t.i], List.prefix_rfl, hx2⟩

/-- The slice that args returns. -/
def argsV (t : T) (sl : Value) : Value := if t.k = 2 then sl else .slice none 0 0
theorem argsV_sl {w : World} {t : T} {sl : Value} (h : SlT w t.ar sl) : SlT w t.used (argsV t sl) := by
  unfold argsV T.used
  by_cases h2 : t.k = 2
  · rw [if_pos h2, if_pos h2]; exact h
  · rw [if_neg h2, if_neg h2]; exact ⟨none, 0, [], rfl, by simp, by omega, Rd.nil _ _, CL.nil _⟩
theorem argsV_any (t : T) (A : Option Addr) (n c : Nat) (w : World) : Calls Try.prog 61 #[.agg #[.int .i64 t.k, .int .i64 t.i, .string t.s, .slice A n c]] w (Ret w (Is (argsV t (.slice A n c)))) := by
  by_cases h : t.k = 2
  · have hb : (t.k == 2) = true := by simpa using h
    have HU : Hid (argsV t (.slice A n c) = .slice A n c) := Lib.hid (if_pos h)
    clear h
    go_enter Try.func61, Try.ntmps61
    go_wp2
    go_ret
    rw [HU.out]
    exact Ret.mk rfl ((Ext.rfl' w).al _)
  · have hb : (t.k == 2) = false := by simpa using h
    have HU : Hid (argsV t (.slice A n c) = .slice none 0 0) := Lib.hid (if_neg h)
    clear h
    go_enter Try.func61, Try.ntmps61
    go_wp2
    go_ret
    rw [HU.out]
    exact Ret.mk rfl ((Ext.rfl' w).al _)

def WalkRel (W0 : World) (J : List Int → World → Prop) (pre : List Int) (l : List T) (v17 : Value) (wr : World) : Prop :=
  ∃ k : Nat, v17 = .int .i64 (k : Int) ∧ k ≤ l.length ∧ Ext W0 wr ∧ J (pre ++ occL (l.take k)) wr

theorem walk_step (d : Nat) (hd : d ≤ 1000000) (W0 : World) (l N : Nat) (J Jx : List Int → World → Prop) (hJ : Lives J)
    (IH : Hid (∀ (n : Nat) (t : T) (v : Value) (pre : List Int) (W : World), wt t ≤ d → VT W0 t v → Ext W0 W → J pre W → pre.length + (occT t).length ≤ N →
      CallsIn Fence.wide n Try.prog 78 #[v, .func (.yield l) #[] #[]] W (Came W0 J Jx pre (occT t))))
    (t : T) (h1 : t.k ≠ 1) (n : Nat) (v : Value) (pre : List Int) (W : World) (hn : wtL t.ar ≤ d) (hv : VT W0 t v) (he : Ext W0 W) (h0 : J pre W) (hN : pre.length + (occT t).length ≤ N) :
    CallsIn Fence.wide n Try.prog 78 #[v, .func (.yield l) #[] #[]] W (Came W0 J Jx pre (occT t)) := by
  obtain ⟨sl, rfl, hs, -⟩ := hv.open_
  have hsl := argsV_sl hs
  obtain ⟨A, c, xs, rfl, -⟩ := hs
  rw [occT_eq h1] at hN ⊢
  have hk : (t.k == 1) = false := by simpa using h1
  have hwu : wtL t.used ≤ d := by have := wtL_used t; omega
  clear h1
  refine callsIn_of_wp Try.func78 rfl trivial ?_ rfl
  simp only [Try.ntmps78, List.size_toArray, List.length_cons, List.length_nil, Nat.reduceAdd, Nat.reduceSub, Array.replicate_succ, Array.replicate_zero, List.push_toArray, List.append_toArray, List.nil_append, List.cons_append]
  gi_wp2_with fail
  refine ⟨trivial, fun h => (by cases h), (callsIn_wide.2 (argsV_any t A _ c _)).mono ?_⟩
  rintro e w1 ⟨v, rfl, hv1, he1⟩
  obtain rfl : v = _ := hv1
  have hE1 : Ext W w1 := ((Ext.rfl' W).al _).tr he1
  have hJ1 := hJ _ _ _ h0 hE1
  have hE0 := he.tr hE1
  have HM : Hid (∀ u, u ∈ t.used → wt u ≤ d) := Lib.hid (fun u hu => by have := wt_mem hu; omega)
  have hll : t.used.length ≤ d := by have := len_wtL t.used; omega
  have HN := Lib.hid hN
  clear hwu hN hv he1 hn
  generalize t.used = ts at *
  generalize argsV t (.slice A t.ar.length c) = av at *
  obtain ⟨A2, c2, xs2, rfl, hr2⟩ := hsl
  have hs0 : SlT W0 ts (.slice A2 ts.length c2) := ⟨A2, c2, xs2, rfl, hr2⟩
  have hsl := hide hs0
  clear hr2 hs0
  gi_wp2
  gi_loopw [6, 17] (fun _ v17 wr => WalkRel W0 J pre ts v17 wr) (fun _ v17 _ => ts.length - (intOf v17).toNat)
  case atStart => exact ⟨0, rfl, by omega, hE0, by simpa [occL] using hJ1⟩
  case round =>
    obtain ⟨k, rfl, hk2, hE, hJk⟩ := hrel
    by_cases hlt : k < ts.length
    · obtain ⟨u, hu⟩ : ∃ u, ts[k]? = some u := ⟨ts[k], List.getElem?_eq_getElem hlt⟩
      obtain ⟨b, o, sl, rfl, e0, e1, e2, e3, hs, hvt⟩ := (unhide hsl).at_ hu
      have c0 := hE.cellOf e0
      have c1 := hE.cellOf e1
      have c2 := hE.cellOf e2
      have c3 := hE.cellOf e3
      clear e0 e1 e2 e3
      have hvt := hide hvt
      obtain ⟨A3, d3, xs3, rfl, -⟩ := hs
      have HT := Lib.hid (show occL (ts.take (k + 1)) = occL (ts.take k) ++ occT u by rw [take_snocT hu, occL_app]; simp [occL])
      have HU : Hid (wt u ≤ d) := Lib.hid (HM.out u (List.mem_of_getElem? hu))
      have HL : Hid ((pre ++ occL (ts.take k)).length + (occT u).length ≤ N) := Lib.hid (by
        have h1 := HN.out
        have h2 : occL ts = occL (ts.take (k + 1)) ++ occL (ts.drop (k + 1)) := by rw [← occL_app, List.take_append_drop]
        rw [h2, HT.out] at h1
        simp only [List.length_append] at h1 ⊢
        omega)
      clear hu
      gi_wp2_with fail
      refine ⟨trivial, fun h => (by cases h), (IH.out (n - 1) u _ (pre ++ occL (ts.take k)) _ HU.out (unhide hvt) (hE.al _) (hJ _ _ _ hJk ((Ext.rfl' wr).al _)) HL.out).mono ?_⟩
      rintro e w2 (⟨rfl, hJ2, he2⟩ | ⟨rfl, q, hq, hx⟩)
      · have hJ3 : J (pre ++ occL (ts.take (k + 1))) w2 := by rw [HT.out, ← List.append_assoc]; exact hJ2
        clear hJ2
        gi_wp2
        go_roundw
        case rel => exact ⟨k + 1, by go_num, by omega, he2, hJ3⟩
        case measure => simp [intOf]; omega
      · have hq2 : occL (ts.take k) ++ q <+: occL ts := by
          have h2 : occL ts = occL (ts.take (k + 1)) ++ occL (ts.drop (k + 1)) := by rw [← occL_app, List.take_append_drop]
          rw [h2, HT.out, List.append_assoc]
          exact List.prefix_append_right_inj _ |>.2 (hq.trans (List.prefix_append _ _))
        have hx2 : Jx (pre ++ (occL (ts.take k) ++ q)) w2 := by rw [← List.append_assoc]; exact hx
        gi_wp2
        go_ret
        exact .inr ⟨rfl, _, hq2, hx2⟩
    · have hJ3 : J (pre ++ occL ts) wr := by rw [List.take_of_length_le (by omega)] at hJk; exact hJk
      gi_wp2
      go_ret
      exact .inl ⟨rfl, hJ3, hE⟩

theorem walk_any (W0 : World) (l N : Nat) (J Jx : List Int → World → Prop) (hJ : Lives J) (hY : Round W0 l N J Jx) : ∀ (d : Nat), d ≤ 1000000 → ∀ (n : Nat) (t : T) (v : Value) (pre : List Int) (W : World), wt t ≤ d → VT W0 t v → Ext W0 W → J pre W → pre.length + (occT t).length ≤ N →
      CallsIn Fence.wide n Try.prog 78 #[v, .func (.yield l) #[] #[]] W (Came W0 J Jx pre (occT t))
  | 0, _, _, t, _, _, _, hn, _, _, _, _ => by rw [wt_eq] at hn; omega
  | d + 1, hM, n, t, v, pre, W, hn, hv, he, h0, hN => by
    by_cases h1 : t.k = 1
    · exact walk_var W0 l N J Jx hJ hY t h1 n v pre W hv he h0 hN
    · exact walk_step d (by omega) W0 l N J Jx hJ (Lib.hid (walk_any W0 l N J Jx hJ hY d (by omega))) t h1 n v pre W (by rw [wt_eq] at hn; omega) hv he h0 hN
end Go.Proofs.Ytcjbageaiafbmaa
