/-
  Valid lists of terms; the walks of rightArgs and of RightAtom of both.
-/
import Derived.Test.YtcjbageaiafbmaaRightR
namespace Go.Proofs.Ytcjbageaiafbmaa
open Go.RowKit

/-- Valid arguments: together at most 200 nodes, at most 20 deep. -/
noncomputable def rightL (ts : List T) : Bool := formL ts && decide (sizeL ts ≤ 200) && decide (depthL ts ≤ 20)
theorem rightL_iff (ts : List T) : rightL ts = true ↔ HoldsL ts 200 20 := by
  unfold rightL HoldsL
  simp only [Bool.and_eq_true, decide_eq_true_eq]
  constructor
  · rintro ⟨⟨a, b⟩, c⟩; exact ⟨a, by omega, by omega⟩
  · rintro ⟨a, b, c⟩; exact ⟨⟨a, by omega⟩, by omega⟩
/-- Each alone is valid. -/
noncomputable def eachR (ts : List T) : Bool := ts.all rightT
theorem eachR_app (a b : List T) : eachR (a ++ b) = (eachR a && eachR b) := by unfold eachR; exact List.all_append ..
theorem size_mem {t : T} : ∀ {l : List T}, t ∈ l → sizeT t ≤ sizeL l
  | u :: l, h => by
    simp only [sizeL]
    rcases List.mem_cons.1 h with rfl | h
    · omega
    · have := size_mem h; omega
theorem rightL_each : ∀ ts : List T, rightL ts = (eachR ts && decide (sizeL ts ≤ 200))
  | [] => by simp [rightL, eachR, formL, sizeL, depthL]
  | t :: ts => by
    have ih := rightL_each ts
    rw [Bool.eq_iff_iff] at ih ⊢
    unfold rightL eachR at *
    simp only [formL, rightT, List.all_cons, Bool.and_eq_true, decide_eq_true_eq] at ih ⊢
    simp only [sizeL, depthL]
    constructor
    · rintro ⟨⟨⟨a, b⟩, c⟩, e⟩
      have := ih.1 ⟨⟨b, by omega⟩, by omega⟩
      exact ⟨⟨⟨⟨a, by omega⟩, by omega⟩, this.1⟩, c⟩
    · rintro ⟨⟨⟨⟨a, b⟩, c⟩, e⟩, f⟩
      have := ih.2 ⟨e, by omega⟩
      exact ⟨⟨⟨a, this.1.1⟩, f⟩, by omega⟩

def ArgsRel (w : World) (l : List T) (v3 v4 : Value) (wr : World) : Prop :=
  ∃ k : Nat, v3 = .int .i64 (sizeL (l.take k) : Nat) ∧ v4 = .int .i64 (k : Int) ∧ k ≤ l.length ∧ Ext w wr ∧ Hid (eachR (l.take k) = true)

theorem refArgsR_any (n : Nat) (hM : n ≤ 1000000) (l : List T) (v : Value) (w : World) (hn : wtL l ≤ n) (hv : SlT w l v) : Calls Try.prog 67 #[v] w (Ret w (Is (.bool (rightL l)))) := by
  have hv' := hide hv
  obtain ⟨A, c, xs, rfl, hr⟩ := hv
  have hll : l.length ≤ n := by have := len_wtL l; omega
  have HN := Lib.hid hn
  have HE := Lib.hid (rightL_each l)
  clear hr hn
  go_enter Try.func67, Try.ntmps67
  go_wp2
  go_loopw [3, 4] (fun v3 v4 wr => ArgsRel w l v3 v4 wr) (fun _ v4 _ => l.length - (intOf v4).toNat)
  case atStart => exact ⟨0, rfl, rfl, by omega, Ext.rfl' w, Lib.hid rfl⟩
  case round =>
    obtain ⟨k, rfl, rfl, hk, hE, hH⟩ := hrel
    have hb1 : sizeL (l.take k) ≤ 1000000 := by
      have h1 := wt_take l k
      have h2 := sizeL_wt (l.take k)
      have h3 := HN.out
      omega
    by_cases hlt : k < l.length
    · obtain ⟨t, ht⟩ : ∃ t, l[k]? = some t := ⟨l[k], List.getElem?_eq_getElem hlt⟩
      obtain ⟨B2, o, sl, rfl, c0, c1, c2, c3, hs, hvt⟩ := (SlT.ext (unhide hv') hE : SlT wr l _).at_ ht
      have hvt := hide hvt
      obtain ⟨A2, d2, xs2, rfl, -⟩ := hs
      have HT := Lib.hid (take_snocT ht)
      have hm := List.mem_of_getElem? ht
      have HU : Hid (wt t ≤ n) := Lib.hid (by have := wt_mem hm; have := HN.out; omega)
      have HX : Hid (rightT t = false → rightL l = false) := Lib.hid fun h => by
        rw [HE.out]
        have : eachR l = false := by
          unfold eachR
          rw [List.all_eq_false]
          exact ⟨t, hm, by rw [h]; simp⟩
        rw [this]; rfl
      clear ht hm
      have hb2 : sizeT t ≤ 1000000 := by have := size_wt t; have := HU.out; omega
      go_wp2_with fail
      refine (refRight_any n hM t _ _ HU.out (unhide hvt)).mono ?_
      rintro e w1 ⟨v, rfl, hv, he1⟩
      obtain rfl : v = _ := hv
      have hE1 := hE.tr he1
      have d0 := he1.cellOf c0
      have d1 := he1.cellOf c1
      have d2 := he1.cellOf c2
      have d3 := he1.cellOf c3
      have hvt1 := hide ((unhide hvt).ext he1)
      clear hvt c0 c1 c2 c3
      cases hf : rightT t
      · have HZ := Lib.hid (HX.out hf)
        clear hf
        go_wp2
        go_ret
        exact Ret.mk (HZ.out ▸ rfl) hE1
      · have HI : Hid (eachR (l.take (k + 1)) = true) := Lib.hid (by rw [HT.out, eachR_app, hH.out]; simp [eachR, hf])
        clear hf
        go_wp2_with fail
        refine (refSize_any n t _ _ HU.out hM (unhide hvt1)).mono ?_
        rintro e w2 ⟨v, rfl, hv, he2⟩
        obtain rfl : v = _ := hv
        have hE2 := hE1.tr he2
        go_wp2
        go_roundw
        case rel => exact ⟨k + 1, congrArg (Value.int .i64) (show _ = ((sizeL (l.take (k + 1)) : Nat) : Int) by rw [HT.out, sizeL_app]; simp only [sizeL]; omega), by go_num, by omega, hE2, HI⟩
        case measure => simp [intOf]; omega
    · have HZ : Hid (rightL l = decide ((sizeL (l.take k) : Int) ≤ 200)) := Lib.hid (by
        have h1 := hH.out
        rw [List.take_of_length_le (by omega)] at h1 ⊢
        rw [HE.out, h1, Bool.true_and, Bool.eq_iff_iff]
        simp only [decide_eq_true_eq]
        omega)
      go_wp2
      go_ret
      exact Ret.mk (HZ.out ▸ rfl) hE
end Go.Proofs.Ytcjbageaiafbmaa
