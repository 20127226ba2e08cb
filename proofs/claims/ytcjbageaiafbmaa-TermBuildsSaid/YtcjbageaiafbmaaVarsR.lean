/-
  The variables of terms, of the reference: has, vars, VarsOf, Vars, Ground, Occurs, AtomVars, GoalVars, SameInts.
-/
import Derived.Test.YtcjbageaiafbmaaUniq
namespace Go.Proofs.Ytcjbageaiafbmaa
open Go.RowKit

set_option maxRecDepth 100000 in
theorem has_any (l : List Int) (v : Value) (x : Int) (w : World) (hv : RdI l v w) (hl : l.length ≤ 100000000) : Calls Try.prog 72 #[v, .int .i64 x] w (SameB w (decide (x ∈ l))) := by
  obtain ⟨A, c, rfl, hr⟩ := hv
  go_enter Try.func72, Try.ntmps72
  go_wp2
  go_loop [5] (fun v5 => ∃ k : Nat, v5 = .int .i64 (k : Int) ∧ k ≤ l.length ∧ Hid (x ∉ l.take k)) (fun v5 => l.length - (intOf v5).toNat)
  case atStart => exact ⟨0, rfl, by omega, Lib.hid (by simp)⟩
  case round =>
    obtain ⟨k, rfl, hk, hi⟩ := hrel
    by_cases hlt : k < l.length
    · obtain ⟨z, hz⟩ : ∃ z, l[k]? = some z := ⟨l[k], List.getElem?_eq_getElem hlt⟩
      obtain ⟨ad, rfl, hc⟩ := hr.at_ (k := k) (u := .int .i64 z) (by rw [List.getElem?_map, hz]; rfl)
      by_cases h0 : z = x
      · have hb : (z == x) = true := by simpa using h0
        have HI : Hid (true = decide (x ∈ l)) := Lib.hid (by subst h0; simp [List.mem_of_getElem? hz])
        clear h0 hz
        go_wp2
        go_ret
        exact SameB.mk HI.out
      · have hb : (z == x) = false := by simpa using h0
        have HI : Hid (x ∉ l.take (k + 1)) := Lib.hid (by
          have hz' : l[k] = z := by
            have := List.getElem?_eq_getElem hlt
            rw [this] at hz; injection hz
          rw [List.take_succ_eq_append_getElem hlt, hz', List.mem_append, not_or]
          exact ⟨hi.out, by simpa using fun h => h0 h.symm⟩)
        clear h0 hz
        go_wp2
        go_round
        case rel => exact ⟨k + 1, by go_num, by omega, HI⟩
        case measure => simp [intOf]; omega
    · rw [List.take_of_length_le (by omega)] at hi
      have HI : Hid (false = decide (x ∈ l)) := Lib.hid (by simp [hi.out])
      go_wp2
      go_ret
      exact SameB.mk HI.out

/-! ### vars -/

section
variable {P : Program} {w W : World} {ops : Array Oper} {rest : List Oper} {o : Oper} {a : Act} {Q : Exit → Act → World → Prop}
/-- append(s, x...) of numbers, s of the call's own, x a slice that reads news. -/
theorem appI (hgd : Region.wanted o (yielded ops a.tmps) = true) (s x : Operand) (ho : o.op = .call { callee := .builtin .append, args := #[s, x], argTypes := #[34, 34] })
    (hE : Ext W w) (v : Value) (n : Nat) (xs : List Value) (hs : a.eval s = v) (hown : w.ownsRow W.heap.size 3 1 v n xs)
    (A : Option Addr) (m c : Nat) (news : List Value) (hx : a.eval x = .slice A m c) (hr : Rd w A news) (hm : news.length = m) (h1 : ∀ u ∈ news, u.oneCell' = true) (hb : n + m ≤ 1000000000)
    (h : ∀ A' c' w', w'.ownsRow W.heap.size 3 1 (.slice A' (n + m) c') (n + m) (xs ++ news) → Ext W w' → w.grownBy w' v.ownBlock → wpList Try.prog ops Q rest (a.put o.dst (.slice A' (n + m) c')) w') : wpList Try.prog ops Q (o :: rest) a w :=
  wpList_app w hgd s x _ ho W.heap.size _ _ 1 8 Try.underlying34 info_int rfl (by omega) v n xs hs hown A m c news hx hr (by omega) h1 (by omega) (by unfold maxLen; omega) hE.size fun v' w' h2 h3 _ => by
    obtain ⟨A', c', rfl⟩ := own_slice h2
    exact h A' c' w' h2 (hE.gr hown (Nat.le_refl _) h3) h3
end
theorem one_i64 (x : Int) : ∀ u ∈ [Value.int .i64 x], u.oneCell' = true := by intro u hu; simp at hu; subst hu; rfl

/-- What vars hands back: a row of W0's caller that holds these numbers. -/
def IsInts (W0 : World) (l : List Int) (v : Value) (w : World) : Prop := IsRow W0.heap.size 3 1 l.length (l.map (Value.int .i64)) v w
theorem IsInts.own {W0 : World} {l : List Int} {v : Value} {w : World} (h : IsInts W0 l v w) : ∃ A c, v = .slice A l.length c ∧ w.ownsRow W0.heap.size 3 1 (.slice A l.length c) l.length (l.map (Value.int .i64)) := h
theorem IsInts.rd {W0 : World} {l : List Int} {v : Value} {w : World} (h : IsInts W0 l v w) : RdI l v w := IsRow.rd h
theorem IsInts.nil (W0 w : World) : IsInts W0 [] (.slice none 0 0) w := ⟨none, 0, rfl, by simpa using World.ownsRow_nil w W0.heap.size _ 1⟩
theorem own_ext {w w' : World} {base : Nat} {e : TypeId} {size n : Nat} {v : Value} {xs : List Value} (h : w.ownsRow base e size v n xs) (he : Ext w w') : w'.ownsRow base e size v n xs :=
  h.kept (row := none) ⟨he.os, he.tape, he.output, he.size, fun k hk _ => he.block k hk⟩ (by cases v.ownBlock <;> simp)
theorem cell_other {w w' : World} {row : Option Nat} (hg : w.grownBy w' row) {p : Addr} {u : Value} (hc : w.cell? p = some u) (hne : some p.block ≠ row) : w'.cell? p = some u := by
  have hlt := World.block_lt_of_cell? w p hc
  have := hg.block p.block hlt hne
  unfold World.cell? at hc ⊢
  rw [this]
  exact hc
theorem IsInts.kept {W0 : World} {l : List Int} {v : Value} {w w' : World} (h : IsInts W0 l v w) (he : Ext w w') : IsInts W0 l v w' := by
  obtain ⟨A, c, rfl, ho⟩ := h
  exact ⟨A, c, rfl, own_ext ho he⟩

def VarsRel (W0 : World) (l : List Int) (ts : List T) (v0 v6 : Value) (wr : World) : Prop :=
  ∃ (k : Nat) (l' : List Int), v6 = .int .i64 (k : Int) ∧ k ≤ ts.length ∧ IsInts W0 l' v0 wr ∧ Hid (l' = uniq l (occL (ts.take k))) ∧ Ext W0 wr

theorem vars_snoc {l l' : List Int} {ts : List T} {k : Nat} {t : T} (ht : ts[k]? = some t) (h : l' = uniq l (occL (ts.take k))) : uniq l' (occT t) = uniq l (occL (ts.take (k + 1))) := by
  rw [take_snocT ht, occL_app, uniq_app, h]
  simp [occL]

theorem refArgsV_any (t : T) (A : Option Addr) (n c : Nat) (w : World) : Calls Try.prog 71 #[.agg #[.int .i64 t.k, .int .i64 t.i, .string t.s, .slice A n c]] w (Ret w (Is (argsV t (.slice A n c)))) := by
  by_cases h : t.k = 2
  · have hb : (t.k == 2) = true := by simpa using h
    have HU : Hid (argsV t (.slice A n c) = .slice A n c) := Lib.hid (if_pos h)
    clear h
    go_enter Try.func71, Try.ntmps71
    go_wp2
    go_ret
    rw [HU.out]
    exact Ret.mk rfl ((Ext.rfl' w).al _)
  · have hb : (t.k == 2) = false := by simpa using h
    have HU : Hid (argsV t (.slice A n c) = .slice none 0 0) := Lib.hid (if_neg h)
    clear h
    go_enter Try.func71, Try.ntmps71
    go_wp2
    go_ret
    rw [HU.out]
    exact Ret.mk rfl ((Ext.rfl' w).al _)

set_option maxRecDepth 100000 in
set_option maxHeartbeats 2000000 in
theorem vars_step (n : Nat) (hM : n ≤ 1000000) (W0 : World)
    (IH : Hid (∀ (t : T) (v : Value) (l : List Int) (x : Value) (w : World), wt t ≤ n → VT W0 t v → IsInts W0 l x w → Ext W0 w → l.length + wt t ≤ 10000000 → Calls Try.prog 64 #[x, v] w (Ret W0 (IsInts W0 (uniq l (occT t))))))
    (t : T) (v : Value) (l : List Int) (x : Value) (w : World) (hn : wtL t.ar ≤ n) (hv : VT W0 t v) (hx : IsInts W0 l x w) (he : Ext W0 w) (hl : l.length + wt t ≤ 10000000) : Calls Try.prog 64 #[x, v] w (Ret W0 (IsInts W0 (uniq l (occT t)))) := by
  have hrd := hx.rd
  obtain ⟨A0, c0, rfl, hown⟩ := hx.own
  have hx' := hide hx
  have hCw := hide (fun w' (e : Ext W0 w') => refArgs_any t v w' (hv.ext e))
  obtain ⟨sl, rfl, hs, -⟩ := hv.open_
  have HSU := Lib.hid (argsV_sl hs)
  have hwu : wtL t.used ≤ n := by have := wtL_used t; omega
  have HWL : Hid (∀ k, (occL (t.used.take k)).length ≤ wtL t.used) := Lib.hid (fun k => Nat.le_trans (occL_wt _) (wt_take _ _))
  have HL : Hid (l.length + wtL t.used + 1 ≤ 10000000) := Lib.hid (by have := wtL_used t; have := wt_eq t; omega)
  have hll : l.length ≤ 10000000 := by omega
  have HH := hide (fun w' (h : RdI l (.slice A0 l.length c0) w') => has_any l _ t.i w' h (by have := HL.out; omega))
  obtain ⟨A, c, xs, rfl, -⟩ := hs
  have HN := Lib.hid hwu
  clear hv hn hl hwu hx
  obtain ⟨y, hy⟩ : ∃ y, w.alloc (.cells #[.int .i64 t.k, .int .i64 t.i, .string t.s, .slice A t.ar.length c] 24) = y := ⟨_, rfl⟩
  have hwy : Ext w y := by rw [← hy]; exact (Ext.rfl' w).al _
  have b0 : y.cell? ⟨w.heap.size, 0, none⟩ = some (.int .i64 t.k) := by rw [← hy]; exact box_cells w _ _ 0 _ rfl
  have b1 : y.cell? ⟨w.heap.size, 1, none⟩ = some (.int .i64 t.i) := by rw [← hy]; exact box_cells w _ _ 1 _ rfl
  have b2 : y.cell? ⟨w.heap.size, 2, none⟩ = some (.string t.s) := by rw [← hy]; exact box_cells w _ _ 2 _ rfl
  have b3 : y.cell? ⟨w.heap.size, 3, none⟩ = some (.slice A t.ar.length c) := by rw [← hy]; exact box_cells w _ _ 3 _ rfl
  have hE := hide (he.tr hwy)
  have hrd := hide (hrd.ext hwy)
  have HNB : Hid (some w.heap.size ≠ (Value.slice A0 l.length c0).ownBlock) := Lib.hid (fun e => by have := (hown.lt _ e.symm).2; omega)
  have hown := own_ext hown hwy
  have hown := hide hown
  have HV0 : Hid (∀ (k : Nat) (u : T), t.used[k]? = some u → wt u ≤ n) := Lib.hid fun k u hu => by have := wt_mem (List.mem_of_getElem? hu); have := HN.out; omega
  by_cases h1 : t.k = 1
  · have hu0 : t.used = [] := by unfold T.used; rw [if_neg (by omega)]
    have HO : Hid (occT t = [t.i]) := Lib.hid (occT_var h1)
    have HU0 := Lib.hid hu0
    have k1 : (t.k == 1) = true := by simpa using h1
    clear h1 hu0
    have HX := hide ((unhide HH) y (unhide hrd))
    by_cases hm : t.i ∈ l
    · have HA : Hid (uniq l (occT t) = l) := Lib.hid (by rw [HO.out]; show addU l t.i = l; unfold addU; rw [if_pos hm])
      rw [decide_eq_true hm] at HX
      clear hm
      go_enter Try.func64, Try.ntmps64
      go_wp2_with fail
      refine (unhide HX).mono ?_
      rintro e y' ⟨rfl, rfl⟩
      go_wp2_with fail
      refine ((unhide hCw) _ (unhide hE)).mono ?_
      rintro e w5 ⟨v, rfl, hv5, he5⟩
      have hsu : SlT w5 t.used v := hv5
      have hI5 := hide (IsInts.kept (l := l) ⟨_, _, rfl, unhide hown⟩ he5)
      have hE5 := hide ((unhide hE).tr he5)
      clear hv5 he5
      rw [HU0.out] at hsu
      obtain ⟨A5, c5, xs5, rfl, -⟩ := hsu
      simp only [List.length_nil]
      go_wp2
      go_loopw [0, 6] (fun v0 v6 wr => VarsRel W0 l [] v0 v6 wr) (fun _ v6 _ => 0)
      case atStart => exact ⟨0, l, rfl, by simp, (by first | exact unhide hI5 | simpa using unhide hI5), Lib.hid (by simp [occL, uniq_nil]), unhide hE5⟩
      case round =>
        obtain ⟨k, l', rfl, hk, hI, hl', hEr⟩ := hrel
        obtain rfl : k = 0 := by simpa using hk
        obtain rfl : l' = l := by rw [hl'.out]; simp [occL, uniq_nil]
        obtain ⟨A6, c6, rfl, -⟩ := hI.own
        have hI := hide hI
        go_wp2
        go_ret
        rw [HA.out]
        exact Ret.mk (unhide hI) hEr
    · have HA : Hid (uniq l (occT t) = l ++ [t.i]) := Lib.hid (by rw [HO.out]; show addU l t.i = _; unfold addU; rw [if_neg hm])
      rw [decide_eq_false hm] at HX
      clear hm
      go_enter Try.func64, Try.ntmps64
      go_wp2_with fail
      refine (unhide HX).mono ?_
      rintro e y' ⟨rfl, rfl⟩
      go_wp2_with (at_builtin; refine halt_at ?_)
      refine go_on (appI (W := W0) rfl _ _ rfl ((unhide hE).al _) _ _ _ rfl ((unhide hown).alloc _) _ 1 1 _ rfl (Rd.newAt _ _ _ _ rfl) rfl (one_i64 _) (by omega) ?_)
      intro A3 c3 w3 hown3 he3 hg3
      have hne : some w.heap.size ≠ (Value.slice A0 l.length c0).ownBlock := HNB.out
      have hown3 : Hid (w3.ownsRow W0.heap.size 3 1 (.slice A3 (l ++ [t.i]).length c3) (l ++ [t.i]).length ((l ++ [t.i]).map (Value.int .i64))) := Lib.hid (by simpa using hown3)
      have hE3 := hide he3
      have d0 := cell_other hg3 (((Ext.rfl' y).al _).cellOf b0) hne
      have d1 := cell_other hg3 (((Ext.rfl' y).al _).cellOf b1) hne
      have d2 := cell_other hg3 (((Ext.rfl' y).al _).cellOf b2) hne
      have d3 := cell_other hg3 (((Ext.rfl' y).al _).cellOf b3) hne
      clear he3 hg3 hne b0 b1 b2 b3
      go_wp2_with fail
      refine ((unhide hCw) _ (unhide hE3)).mono ?_
      rintro e w5 ⟨v, rfl, hv5, he5⟩
      have hsu : SlT w5 t.used v := hv5
      have hI5 := hide (IsInts.kept (l := (l ++ [t.i])) ⟨_, _, rfl, unhide hown3⟩ he5)
      have hE5 := hide ((unhide hE3).tr he5)
      clear hv5 he5
      rw [HU0.out] at hsu
      obtain ⟨A5, c5, xs5, rfl, -⟩ := hsu
      simp only [List.length_nil]
      go_wp2
      go_loopw [0, 6] (fun v0 v6 wr => VarsRel W0 (l ++ [t.i]) [] v0 v6 wr) (fun _ v6 _ => 0)
      case atStart => exact ⟨0, (l ++ [t.i]), rfl, by simp, (by first | exact unhide hI5 | simpa using unhide hI5), Lib.hid (by simp [occL, uniq_nil]), unhide hE5⟩
      case round =>
        obtain ⟨k, l', rfl, hk, hI, hl', hEr⟩ := hrel
        obtain rfl : k = 0 := by simpa using hk
        obtain rfl : l' = (l ++ [t.i]) := by rw [hl'.out]; simp [occL, uniq_nil]
        obtain ⟨A6, c6, rfl, -⟩ := hI.own
        have hI := hide hI
        go_wp2
        go_ret
        rw [HA.out]
        exact Ret.mk (unhide hI) hEr
  · have HO : Hid (occT t = occL t.used) := Lib.hid (occT_eq h1)
    have k1 : (t.k == 1) = false := by simpa using h1
    clear h1 HH hrd
    go_enter Try.func64, Try.ntmps64
    go_wp2_with fail
    refine (refArgsV_any t A _ c _).mono ?_
    rintro e w5 ⟨v, rfl, hv5, he5⟩
    obtain rfl : v = _ := hv5
    have hI5 := hide (IsInts.kept (l := l) ⟨_, _, rfl, unhide hown⟩ he5)
    have hE5 := hide ((unhide hE).tr he5)
    clear he5
    rw [HO.out]
    generalize t.used = ts at *
    obtain ⟨A5, c5, xs5, hav, hr5⟩ := HSU.out
    have HS0 : Hid (SlT W0 ts (.slice A5 ts.length c5)) := Lib.hid ⟨A5, c5, xs5, rfl, hr5⟩
    rw [hav]
    clear hr5 hav HSU
    have hll5 : ts.length ≤ 1000000 := by have := len_wtL ts; have := HN.out; omega
    go_wp2
    go_loopw [0, 6] (fun v0 v6 wr => VarsRel W0 l ts v0 v6 wr) (fun _ v6 _ => ts.length - (intOf v6).toNat)
    case atStart => exact ⟨0, l, rfl, by omega, unhide hI5, Lib.hid (by simp [occL, uniq_nil]), unhide hE5⟩
    case round =>
      obtain ⟨k, l', rfl, hk, hI, hl', hEr⟩ := hrel
      obtain ⟨A6, c6, rfl, -⟩ := hI.own
      have hI := hide hI
      by_cases hlt : k < ts.length
      · obtain ⟨u, hu⟩ : ∃ u, ts[k]? = some u := ⟨ts[k], List.getElem?_eq_getElem hlt⟩
        obtain ⟨b, o, su, rfl, e0, e1, e2, e3, hsu, hvt⟩ := HS0.out.at_ hu
        have c0' := hEr.cellOf e0
        have c1' := hEr.cellOf e1
        have c2' := hEr.cellOf e2
        have c3' := hEr.cellOf e3
        clear e0 e1 e2 e3
        have hvt := hide hvt
        obtain ⟨A7, d7, xs7, rfl, -⟩ := hsu
        have HT := Lib.hid (vars_snoc hu hl'.out)
        have HW : Hid (wt u ≤ n) := Lib.hid (HV0.out k u hu)
        have HB : Hid (l'.length + wt u ≤ 10000000) := Lib.hid (by
          have h1 := HL.out
          have h2 := uniq_len (occL (ts.take k)) l
          rw [← hl'.out] at h2
          have h3 : wtL (ts.take (k + 1)) ≤ wtL ts := wt_take _ _
          rw [take_snocT hu, wtL_app] at h3
          simp only [wtL] at h3
          have h4 := occL_wt (ts.take k)
          omega)
        clear hu
        go_wp2_with fail
        refine (IH.out u _ l' _ _ HW.out (unhide hvt) (unhide hI) hEr HB.out).mono ?_
        rintro e w6 ⟨v, rfl, hv6, hE6⟩
        rw [HT.out] at hv6
        obtain ⟨A8, c8, rfl, -⟩ := hv6.own
        have hv6 := hide hv6
        have hE6 := hide hE6
        go_wp2
        go_roundw
        case rel => exact ⟨k + 1, _, by go_num, by omega, unhide hv6, Lib.hid rfl, unhide hE6⟩
        case measure => simp [intOf]; omega
      · have hl2 : l' = uniq l (occL ts) := by have := hl'.out; rwa [List.take_of_length_le (by omega)] at this
        subst hl2
        go_wp2
        go_ret
        rw [HO.out]
        exact Ret.mk (unhide hI) hEr

theorem vars_any (W0 : World) : ∀ (n : Nat), n ≤ 1000000 → ∀ (t : T) (v : Value) (l : List Int) (x : Value) (w : World), wt t ≤ n → VT W0 t v → IsInts W0 l x w → Ext W0 w → l.length + wt t ≤ 10000000 → Calls Try.prog 64 #[x, v] w (Ret W0 (IsInts W0 (uniq l (occT t))))
  | 0, _, t, _, _, _, _, hn, _, _, _, _ => by rw [wt_eq] at hn; omega
  | n + 1, hM, t, v, l, x, w, hn, hv, hx, he, hl => vars_step n (by omega) W0 (Lib.hid (vars_any W0 n (by omega))) t v l x w (by rw [wt_eq] at hn; omega) hv hx he hl

theorem refVars_any (n : Nat) (hM : n ≤ 1000000) (t : T) (v : Value) (w : World) (hn : wt t ≤ n) (hv : VT w t v) : Calls Try.prog 43 #[v] w (Ret w (RdI (uniq [] (occT t)))) := by
  have hC := hide (fun w' (e : Ext w w') => vars_any w n hM t v [] _ w' hn hv (IsInts.nil w w') e (by simp; omega))
  obtain ⟨sl, rfl, hs, -⟩ := hv.open_
  obtain ⟨A, c, xs, rfl, -⟩ := hs
  have HE := hide (fun o => (Ext.rfl' w).al o)
  clear hv hn
  go_enter Try.func43, Try.ntmps43
  go_wp2_with fail
  refine ((unhide hC) _ ((unhide HE) _)).mono ?_
  rintro e w1 ⟨v, rfl, hv, he⟩
  obtain ⟨A2, c2, rfl, hr⟩ := hv.rd
  have he := hide he
  clear hv
  go_wp2
  go_ret
  exact Ret.mk ⟨A2, c2, rfl, hr⟩ (unhide he)
def VarsOfRel (w : World) (l : List T) (v3 v4 : Value) (wr : World) : Prop :=
  ∃ k : Nat, v4 = .int .i64 (k : Int) ∧ k ≤ l.length ∧ IsInts w (uniq [] (occL (l.take k))) v3 wr ∧ Ext w wr
theorem varsOf_any (n : Nat) (hM : n ≤ 1000000) (l : List T) (v : Value) (w : World) (hn : wtL l ≤ n) (hv : SlT w l v) : Calls Try.prog 24 #[v] w (Ret w (RdI (uniq [] (occL l)))) := by
  have hv' := hide hv
  obtain ⟨A, c, xs, rfl, hr⟩ := hv
  have hll : l.length ≤ n := by have := len_wtL l; omega
  have HN := Lib.hid hn
  clear hr hn
  go_enter Try.func24, Try.ntmps24
  go_wp2
  go_loopw [3, 4] (fun v3 v4 wr => VarsOfRel w l v3 v4 wr) (fun _ v4 _ => l.length - (intOf v4).toNat)
  case atStart => exact ⟨0, rfl, by omega, by simpa [occL, uniq_nil] using IsInts.nil w w, Ext.rfl' w⟩
  case round =>
    obtain ⟨k, rfl, hk, hI, hE⟩ := hrel
    obtain ⟨A6, c6, rfl, -⟩ := hI.own
    by_cases hlt : k < l.length
    · obtain ⟨u, hu⟩ : ∃ u, l[k]? = some u := ⟨l[k], List.getElem?_eq_getElem hlt⟩
      obtain ⟨b, o, su, rfl, e0, e1, e2, e3, hsu, hvt⟩ := (unhide hv').at_ hu
      have c0' := hE.cellOf e0
      have c1' := hE.cellOf e1
      have c2' := hE.cellOf e2
      have c3' := hE.cellOf e3
      clear e0 e1 e2 e3
      have hvt := hide hvt
      obtain ⟨A7, d7, xs7, rfl, -⟩ := hsu
      have HT := Lib.hid (vars_snoc (l := []) hu rfl)
      have hm := List.mem_of_getElem? hu
      have HW : Hid (wt u ≤ n) := Lib.hid (by have := wt_mem hm; have := HN.out; omega)
      have HB : Hid ((uniq [] (occL (l.take k))).length + wt u ≤ 10000000) := Lib.hid (by
        have h2 := uniq_len (occL (l.take k)) []
        have h3 : wtL (l.take k) ≤ wtL l := wt_take _ _
        have h4 := occL_wt (l.take k)
        have h5 := HW.out
        have h6 := HN.out
        simp only [List.length_nil] at h2
        omega)
      clear hu hm
      have hI := hide hI
      go_wp2_with fail
      refine (vars_any w n hM u _ _ _ _ HW.out (unhide hvt) (unhide hI) hE HB.out).mono ?_
      rintro e w6 ⟨v, rfl, hv6, hE6⟩
      rw [HT.out] at hv6
      obtain ⟨A8, c8, rfl, -⟩ := hv6.own
      have hv6 := hide hv6
      have hE6 := hide hE6
      go_wp2
      go_roundw
      case rel => exact ⟨k + 1, by go_num, by omega, unhide hv6, unhide hE6⟩
      case measure => simp [intOf]; omega
    · have hl : l.take k = l := List.take_of_length_le (by omega)
      rw [hl] at hI ⊢
      obtain ⟨A9, c9, h9, hr9⟩ := hI.rd
      injection h9 with h9 _ h10
      subst h9 h10
      have hr9 := hide hr9
      clear hI
      go_wp2
      go_ret
      exact Ret.mk ⟨_, _, rfl, unhide hr9⟩ hE
theorem refGround_any (n : Nat) (hM : n ≤ 1000000) (t : T) (v : Value) (w : World) (hn : wt t ≤ n) (hv : VT w t v) : Calls Try.prog 44 #[v] w (Ret w (Is (.bool (groundT t)))) := by
  have hC := hide (fun w' (e : Ext w w') => refVars_any n hM t v w' hn (hv.ext e))
  obtain ⟨sl, rfl, hs, -⟩ := hv.open_
  obtain ⟨A, c, xs, rfl, -⟩ := hs
  have HE := hide (fun o => (Ext.rfl' w).al o)
  have HG : Hid (groundT t = decide ((uniq [] (occT t)).length = 0)) := Lib.hid (by
    unfold groundT
    cases h : occT t with
    | nil => rfl
    | cons x xs =>
      have : x ∈ uniq [] (x :: xs) := mem_uniq.2 (.inr (List.mem_cons_self))
      have h2 : (uniq [] (x :: xs)).length ≠ 0 := fun h0 => by rw [List.length_eq_zero_iff.1 h0] at this; simp at this
      simp [h2])
  clear hv hn
  go_enter Try.func44, Try.ntmps44
  go_wp2_with fail
  refine ((unhide hC) _ ((unhide HE) _)).mono ?_
  rintro e w1 ⟨v, rfl, hv, he⟩
  obtain ⟨A2, c2, rfl, -⟩ := hv
  have he := hide (((unhide HE) _).tr he)
  generalize (uniq [] (occT t)).length = m at *
  go_wp2
  go_ret
  refine Ret.mk ?_ (unhide he)
  rw [HG.out]
  show Value.bool _ = Value.bool _
  congr 1
  rw [Bool.eq_iff_iff]
  simp
theorem refOccurs_any (n : Nat) (hM : n ≤ 1000000) (x : Int) (t : T) (v : Value) (w : World) (hn : wt t ≤ n) (hv : VT w t v) : Calls Try.prog 46 #[.int .i64 x, v] w (Ret w (Is (.bool (decide (x ∈ occT t))))) := by
  have hC := hide (fun w' (e : Ext w w') => refVars_any n hM t v w' hn (hv.ext e))
  obtain ⟨sl, rfl, hs, -⟩ := hv.open_
  obtain ⟨A, c, xs, rfl, -⟩ := hs
  have HE := hide (fun o => (Ext.rfl' w).al o)
  have HG : Hid (decide (x ∈ uniq [] (occT t)) = decide (x ∈ occT t)) := Lib.hid (by rw [Bool.eq_iff_iff]; simp [mem_uniq])
  have HL : Hid ((uniq [] (occT t)).length ≤ 100000000) := Lib.hid (by have := uniq_len (occT t) []; have := occ_wt t; simp at *; omega)
  clear hv hn
  go_enter Try.func46, Try.ntmps46
  go_wp2_with fail
  refine ((unhide hC) _ ((unhide HE) _)).mono ?_
  rintro e w1 ⟨v, rfl, hv, he⟩
  have hv' := hide hv
  obtain ⟨A2, c2, rfl, -⟩ := hv
  have he := hide (((unhide HE) _).tr he)
  go_wp2_with fail
  refine (has_any _ _ x _ (unhide hv') HL.out).mono ?_
  rintro e w2 ⟨rfl, rfl⟩
  rw [HG.out]
  go_wp2
  go_ret
  exact Ret.mk rfl (unhide he)
theorem refAtomVars_any (n : Nat) (hM : n ≤ 1000000) (a : At) (v : Value) (w : World) (hn : wtL a.ts ≤ n) (hv : VA w a v) : Calls Try.prog 40 #[v] w (Ret w (RdI (uniq [] (occL a.ts)))) := by
  obtain ⟨sl, rfl, hs, -⟩ := hv.open_
  have hC := hide (fun w' (e : Ext w w') => varsOf_any n hM a.ts sl w' hn (hs.ext e))
  obtain ⟨A, c, xs, rfl, -⟩ := hs
  have HE := hide (fun o => (Ext.rfl' w).al o)
  clear hv hn
  go_enter Try.func40, Try.ntmps40
  go_wp2_with fail
  refine ((unhide hC) _ ((unhide HE) _)).mono ?_
  rintro e w1 ⟨v, rfl, hv, he⟩
  obtain ⟨A2, c2, rfl, hr⟩ := hv
  have he := hide (((unhide HE) _).tr he)
  go_wp2
  go_ret
  exact Ret.mk ⟨A2, c2, rfl, hr⟩ (unhide he)
theorem refGoalVars_any (n : Nat) (hM : n ≤ 1000000) (g : Gl) (v : Value) (w : World) (hn : wtL g.ts ≤ n) (hv : VG w g v) : Calls Try.prog 31 #[v] w (Ret w (RdI (uniq [] (occL g.ts)))) := by
  obtain ⟨sl, rfl, hs, -⟩ := hv.open_
  have hC := hide (fun w' (e : Ext w w') => varsOf_any n hM g.ts sl w' hn (hs.ext e))
  obtain ⟨A, c, xs, rfl, -⟩ := hs
  have HE := hide (fun o => (Ext.rfl' w).al o)
  clear hv hn
  go_enter Try.func31, Try.ntmps31
  go_wp2_with fail
  refine ((unhide hC) _ ((unhide HE) _)).mono ?_
  rintro e w1 ⟨v, rfl, hv, he⟩
  obtain ⟨A2, c2, rfl, hr⟩ := hv
  have he := hide (((unhide HE) _).tr he)
  go_wp2
  go_ret
  exact Ret.mk ⟨A2, c2, rfl, hr⟩ (unhide he)

def SameRel (w : World) (l m : List Int) (v5 : Value) (wr : World) : Prop := ∃ k : Nat, v5 = .int .i64 (k : Int) ∧ k ≤ l.length ∧ Hid (l.take k = m.take k) ∧ Ext w wr
set_option maxRecDepth 100000 in
theorem sameInts_any (l m : List Int) (v x : Value) (w : World) (hl : l.length ≤ 100000000) (hm : m.length ≤ 100000000) (hv : RdI l v w) (hx : RdI m x w) : Calls Try.prog 22 #[v, x] w (Ret w (Is (.bool (decide (l = m))))) := by
  obtain ⟨A, c, rfl, hr⟩ := hv
  obtain ⟨B, d, rfl, hs⟩ := hx
  by_cases hlm : l.length = m.length
  · have hb : ((l.length : Int) != (m.length : Int)) = false := by simp [hlm]
    have HLM := Lib.hid hlm
    have hle : l.length ≤ m.length := by omega
    clear hlm
    go_enter Try.func22, Try.ntmps22
    go_wp2
    go_loopw [5] (fun v5 wr => SameRel w l m v5 wr) (fun v5 _ => l.length - (intOf v5).toNat)
    case atStart => exact ⟨0, rfl, by omega, Lib.hid rfl, Ext.rfl' w⟩
    case round =>
      obtain ⟨k, rfl, hk, hi, hE⟩ := hrel
      by_cases hlt : k < l.length
      · have hlt2 : k < m.length := by omega
        obtain ⟨p, hp⟩ : ∃ z, l[k]? = some z := ⟨l[k], List.getElem?_eq_getElem hlt⟩
        obtain ⟨q, hq⟩ : ∃ z, m[k]? = some z := ⟨m[k], List.getElem?_eq_getElem hlt2⟩
        obtain ⟨a1, rfl, f1⟩ := (hr.ext hE).at_ (k := k) (u := .int .i64 p) (by rw [List.getElem?_map, hp]; rfl)
        obtain ⟨a2, rfl, f2⟩ := (hs.ext hE).at_ (k := k) (u := .int .i64 q) (by rw [List.getElem?_map, hq]; rfl)
        by_cases hpq : p = q
        · have HI : Hid (l.take (k + 1) = m.take (k + 1)) := Lib.hid (by
            rw [List.take_add_one, List.take_add_one, hi.out, hp, hq, hpq])
          have hb2 : (p != q) = false := by simp [hpq]
          clear hp hq hpq
          go_wp2_with fail
          refine wp_region_sched [(0, true), (1, true), (2, true), (3, true), (4, true), (5, true), (6, true), (7, true), (8, true)] (by kernel_rfl) (by kernel_rfl) (Ext wr) (Ext.rfl' wr).dr ?_
          iterate 9 (refine sQ rfl rfl ?_ ?_ ?_; rotate_left; (· (intro w' hw'; have z1 := hw'.cellOf f1; have z2 := hw'.cellOf f2; go_simp; try with_reducible rfl)); try simp only [Act.put, List.setIfInBounds_toArray, List.set_cons_succ, List.set_cons_zero])
          refine sE ?_
          go_wp2
          go_roundw
          case rel => exact ⟨k + 1, by go_num, by omega, HI, hE.dr⟩
          case measure => simp [intOf]; omega
        · have HI : Hid (decide (l = m) = false) := Lib.hid (by
            rw [decide_eq_false_iff_not]
            rintro rfl
            rw [hp] at hq
            injection hq with hq
            exact hpq hq)
          have hb2 : (p != q) = true := by simp [hpq]
          clear hp hq hpq
          go_wp2_with fail
          refine wp_region_sched [(0, true), (1, true), (2, true), (3, true), (4, true), (5, true), (6, true), (7, true), (8, true)] (by kernel_rfl) (by kernel_rfl) (Ext wr) (Ext.rfl' wr).dr ?_
          iterate 9 (refine sQ rfl rfl ?_ ?_ ?_; rotate_left; (· (intro w' hw'; have z1 := hw'.cellOf f1; have z2 := hw'.cellOf f2; go_simp; try with_reducible rfl)); try simp only [Act.put, List.setIfInBounds_toArray, List.set_cons_succ, List.set_cons_zero])
          refine sE ?_
          go_wp2
          go_ret
          exact Ret.mk (HI.out ▸ rfl) hE.dr
      · have HI : Hid (decide (l = m) = true) := Lib.hid (by
          have h := hi.out
          have h2 := HLM.out
          rw [List.take_of_length_le (by omega), List.take_of_length_le (by omega)] at h
          rw [h]; simp)
        go_wp2
        go_ret
        exact Ret.mk (HI.out ▸ rfl) hE
  · have hb : ((l.length : Int) != (m.length : Int)) = true := by simp; omega
    have HF : Hid (decide (l = m) = false) := Lib.hid (by
      rw [decide_eq_false_iff_not]
      rintro rfl
      exact hlm rfl)
    clear hlm
    go_enter Try.func22, Try.ntmps22
    go_wp2
    go_ret
    exact Ret.mk (HF.out ▸ rfl) (Ext.rfl' w)
end Go.Proofs.Ytcjbageaiafbmaa
