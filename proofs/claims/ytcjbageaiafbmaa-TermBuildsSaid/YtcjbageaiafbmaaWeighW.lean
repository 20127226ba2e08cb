/-
  The walk of the measure by which the statements leave great terms out.
-/
import Derived.Test.YtcjbageaiafbmaaWeigh
namespace Go.Proofs.Ytcjbageaiafbmaa
open Go.RowKit

def WeighRel (W : World) (d : Nat) (l : List T) (left0 : Int) (v1 v7 : Value) (wr : World) : Prop :=
  ∃ (k : Nat) (left : Int), v1 = .int .i64 left ∧ v7 = .int .i64 (k : Int) ∧ k ≤ l.length ∧ -1 ≤ left ∧ left ≤ left0 ∧
    Hid (l.foldl (fun left t => if left < 0 then left else weighF d t.ar (left - 1 - (t.s.size / 8 : Nat))) left0 = (l.drop k).foldl (fun left t => if left < 0 then left else weighF d t.ar (left - 1 - (t.s.size / 8 : Nat))) left) ∧ Ext W wr

set_option maxRecDepth 100000 in
set_option maxHeartbeats 1600000 in
theorem weigh_any : ∀ (d : Nat) (l : List T) (v : Value) (left dv : Int) (w : World), SlT w l v → dv = (d : Int) → d ≤ 1000 → -9223372036854775808 ≤ left → left ≤ 1000000 →
    Calls Try.prog 47 #[v, .int .i64 left, .int .i64 dv] w (Ret w (Is (.int .i64 (weighF d l left))))
  | 0, l, v, left, dv, w, hv, hdv, _, _, _ => by
    subst hdv
    obtain ⟨A, c, xs, rfl, h1, h2, h3, h4⟩ := hv
    go_enter Try.func47, Try.ntmps47
    go_wp2
    go_ret
    exact Ret.mk rfl (Ext.rfl' w)
  | d + 1, l, v, left, dv, w, hv, hdv, hd, hl1, hl2 => by
    have hd1 : 1 ≤ dv := by omega
    have hd2 : dv ≤ 1000 := by omega
    have HD := Lib.hid hdv
    clear hdv
    have IH := hide (weigh_any d)
    have hv' := hv
    obtain ⟨A, c, xs, rfl, h1, h2, h3, h4⟩ := hv
    have hb : (dv == 0) = false := by simp; omega
    by_cases hlt : left < (l.length : Int)
    · have HF : Hid (weighF (d + 1) l left = -1) := by unfold weighF; rw [if_pos hlt]; exact Lib.hid rfl
      clear hl1
      go_enter Try.func47, Try.ntmps47
      go_wp2
      go_ret
      rw [HF.out]
      exact Ret.mk rfl (Ext.rfl' w)
    have HF : Hid (weighF (d + 1) l left = l.foldl (fun left t => if left < 0 then left else weighF d t.ar (left - 1 - (t.s.size / 8 : Nat))) left) := by
      show weighF (d + 1) l left = _
      rw [weighF, if_neg hlt]
    have hll : l.length ≤ 1000000 := by omega
    have hle : (l.length : Int) ≤ left := by omega
    clear hl1 hlt h1 h2
    go_enter Try.func47, Try.ntmps47
    go_wp2
    go_loopw [1, 7] (WeighRel w d l left) (fun _ v7 _ => l.length - (intOf v7).toNat)
    case atStart => exact ⟨0, left, rfl, rfl, by omega, by omega, by omega, Lib.hid (by rw [List.drop_zero]), Ext.rfl' w⟩
    case round =>
      obtain ⟨k, lf, rfl, rfl, hk, hlf, hlf2, hinv, he⟩ := hrel
      by_cases hlt : k < l.length
      · by_cases hn : 0 ≤ lf
        · obtain ⟨t, ht⟩ : ∃ t, l[k]? = some t := ⟨l[k], List.getElem?_eq_getElem hlt⟩
          obtain ⟨b, o, sl, rfl, c0, c1, c2, c3, hs, hvt⟩ := (hv'.ext he).at_ ht
          obtain ⟨_, _, _, _, _, hsz⟩ := hvt.open_
          have hdr : l.drop k = t :: l.drop (k + 1) := by
            rw [List.drop_eq_getElem_cons hlt]; congr 1
            have := List.getElem?_eq_getElem hlt
            rw [this] at ht; injection ht
          rw [hdr, List.foldl_cons, if_neg (by omega)] at hinv
          clear hdr ht
          go_wp2_with fail
          refine wp_region_sched [(0, true), (1, true), (2, true), (3, true), (4, true), (5, true), (6, true), (7, true), (8, true), (9, true), (10, true), (11, true), (12, true), (13, true), (14, true), (15, true), (16, true), (17, false), (18, true)] (by kernel_rfl) (by kernel_rfl) (Ext wr) (Ext.rfl' wr).dr ?_
          iterate 17 (refine sQ rfl rfl ?_ ?_ ?_; rotate_left; (· (intro w' hw'; have z2 := hw'.cellOf c2; have z3 := hw'.cellOf c3; go_simp; try with_reducible rfl)); simp only [Act.put, List.setIfInBounds_toArray, List.set_cons_succ, List.set_cons_zero])
          refine sL rfl rfl ?_
          go_wp2_with fail
          have hcall := (unhide IH) t.ar sl (lf - 1 - (t.s.size / 8 : Nat)) (dv - 1) wr.drew (hs.ext (Ext.rfl' wr).dr) (by have := HD.out; omega) (by omega) (by omega) (by omega)
          rw [show (lf - 1 - ((t.s.size / 8 : Nat) : Int)) = lf - 1 - (t.s.size : Int) / 8 by omega] at hcall hinv
          refine hcall.mono ?_
          rintro e w2 ⟨v, rfl, hv2, he2⟩
          obtain rfl : v = _ := hv2
          have hE2 : Ext wr w2 := (Ext.rfl' wr).dr.tr he2
          have hge := weighF_ge d t.ar (lf - 1 - (t.s.size : Int) / 8)
          have hle2 : weighF d t.ar (lf - 1 - (t.s.size : Int) / 8) ≤ left := by
            by_cases h0 : 0 ≤ lf - 1 - (t.s.size : Int) / 8
            · have := weighF_le d t.ar _ h0
              omega
            · cases d with
              | zero => simp [weighF]; omega
              | succ d => unfold weighF; rw [if_pos (by omega)]; omega
          generalize weighF d t.ar (lf - 1 - (t.s.size : Int) / 8) = z at *
          go_wp2_with fail
          refine SQ.mk hE2 ?_
          iterate 1 (refine sQ rfl rfl ?_ ?_ ?_; rotate_left; (· (intro w' hw'; go_simp; try with_reducible rfl)); simp only [Act.put, List.setIfInBounds_toArray, List.set_cons_succ, List.set_cons_zero])
          refine sE ?_
          go_wp2_with fail
          go_roundw
          case rel => exact ⟨k + 1, z, rfl, by go_num, by omega, hge, hle2, hinv, he.tr hE2⟩
          case measure => simp [intOf]; omega
        · go_wp2
          go_ret
          rw [HF.out, hinv.out, weigh_neg _ _ _ (by omega)]
          exact Ret.mk rfl he
      · go_wp2
        go_ret
        rw [HF.out, hinv.out, List.drop_eq_nil_of_le (by omega)]
        exact Ret.mk rfl he
end Go.Proofs.Ytcjbageaiafbmaa
