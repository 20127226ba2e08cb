/-
 Texts of the seat, merged.
-/
import Derived.Test.YtabbfihjeppbhaaGreatLMA
import Derived.Test.YtabbfihjeppbhaaGreatLMB
import Derived.Test.YtabbfihjeppbhaaGreatLMC
import Derived.Test.YtabbfihjeppbhaaGreatLMD
import Derived.Test.YtabbfihjeppbhaaGreatLME
import Derived.Test.YtabbfihjeppbhaaGreatLMF
import Derived.Test.YtabbfihjeppbhaaGreatLMG
import Derived.Test.YtabbfihjeppbhaaGreatLMH
import Derived.Test.YtabbfihjeppbhaaGreatLMI
import Derived.Test.YtabbfihjeppbhaaGreatLMJ
import Derived.Test.YtabbfihjeppbhaaGreatChecked
import Derived.WalkKit
import Derived.Lib.Hide
import Derived.Lib.AppendStr
import Derived.Deep.AppendLies
import Derived.Deep.AppendSrc
import Derived.Deep.Draws
import Derived.Deep.QuietTactic
import Derived.BigQuiet
import Derived.Deep.RegionWith
import Derived.Maps.AppendAt
import Derived.WalkSpells
import Derived.Orders
import Derived.Deep.Slices
import Derived.Deep.Fields
import Derived.ChangeArms
import Derived.Lib.OthersKept
import Derived.Lib.TrimU
import Derived.Lib.IndexAny
import Derived.Deep.LoopGhost
import Derived.Lib.Bytealg
import Derived.RangeFuncBox
import Derived.RangeFuncNested
import Derived.RangeFuncBound
import Derived.RangeFuncCalls
import Derived.RangeFuncLeaves
import Derived.Shelf.Abstract
import Derived.OwnWalkIn
import Derived.TacticsInMore
import Derived.LoopNIn
import Derived.LoopIn
import Derived.RangeFuncWrites
import Derived.Maps.OwnIn
import Derived.Maps.Views
import Derived.Laws.OwnMore
import Derived.Maps.OwnSet
import Derived.Test.YtabbfihjeppbhaaGreatRows
import Derived.ProofKit
import Derived.OpenShut
import Derived.Carry
import Derived.OrdersIn
import Derived.Great.BuildSlice
import Derived.ArgAppend
import Derived.Laws.MakeOwn
import Derived.Laws.Cover3
import Derived.Laws.CopyRow
import Derived.MapKept
import Derived.Maps.RangeRun
import Derived.DeepKeys5
import Derived.WideKeyRuns
import Derived.RangeFuncOwn
import Derived.Lib.AppendZeros
import Derived.ChangeSlices
set_option linter.unusedVariables false
set_option linter.unusedSimpArgs false
set_option linter.unnecessarySimpa false
set_option linter.all false
namespace Go.Proofs.YtabbfihjeppbhaaGreat
set_option maxRecDepth 100000
open Go.RowKit
theorem qsT (c : List Int) : cnt c ≤ c.length := by
 have := qiN c []
 simpa [cnt] using this
abbrev BsR := Option (List (Int × T) × Int)
theorem qnI (k : Int → BsR) (q : Nd) : ∀ (l : List (Int × T)) (i : Nat), ∃ j : Nat, i ≤ j ∧ j ≤ i + l.length ∧ qa8 k q l i = k (j : Int)
 | [], i => ⟨i, Nat.le_refl _, Nat.le_refl _, by rw [qa8]⟩
 | x :: l, i => by
  rw [qa8, List.length_cons]
  by_cases h : x.1 < q.f1_Int
  · obtain ⟨j, h1, h2, e⟩ := qnI k q l (i + 1)
    exact ⟨j, by omega, by omega, by rw [decide_eq_true h, cond_true, e]⟩
  · exact ⟨i, Nat.le_refl _, by omega, by rw [decide_eq_false h, cond_false]⟩
theorem qok (k : Int → BsR) (q : Nd) : ∀ (l : List (Int × T)) (i : Nat), ∃ j : Nat, i ≤ j ∧ j ≤ i + l.length ∧ qa6 k q l i = k (j : Int)
 | [], i => ⟨i, Nat.le_refl _, Nat.le_refl _, by rw [qa6]⟩
 | x :: l, i => by
  rw [qa6, List.length_cons]
  by_cases h : x.1 < q.f1_Int
  · obtain ⟨j, h1, h2, e⟩ := qok k q l (i + 1)
    exact ⟨j, by omega, by omega, by rw [decide_eq_true h, cond_true, e]⟩
  · exact ⟨i, Nat.le_refl _, by omega, by rw [decide_eq_false h, cond_false]⟩
theorem qmh (k : List (Int × T) → BsR) (out : List (Int × T)) (x : Int × T) (j : Nat) (hj : j ≤ out.length) (hl : out.length ≤ 1000000) :
 ((y9 out 0 (j : Int)).bind fun l_51 => ((zY 64 [] l_51).bind fun l_52 => ((zY 64 l_52 [x]).bind fun l_54 => ((y9 out (j : Int) (out.length : Int)).bind fun l_56 => ((zY 64 l_54 l_56).bind fun l_57 => k l_57))))) = k (out.take j ++ [x] ++ out.drop j) := by
 have h1 : y9 out 0 (j : Int) = some (out.take j) := by
  unfold y9
  rw [if_pos (by omega)]
  simp
 have h2 : y9 out (j : Int) (out.length : Int) = some (out.drop j) := by
  unfold y9
  rw [if_pos (by omega)]
  simp
 rw [h1, Option.bind_some, qpt (by omega) (by simp; omega), Option.bind_some, List.nil_append, qpt (by omega) (by simp; omega), Option.bind_some, h2, Option.bind_some, qpt (by omega) (by simp; omega), Option.bind_some]
theorem qoy {M : Nat} {g : List Nd} (hg : g.length ≤ 100000) {c : List Int} (h : StG g c) (fuel : Nat) (hf : g.length + M + 2 ≤ fuel) (m : List Ms × Bool) (hm : ∀ v ∈ c, (∃ y, zw m.1 v = some y) ∧ yQ M g c g.length v) :
 ∀ (n i : Nat) (out : List (Int × T)), g.length < n + i → i ≤ g.length → out.length ≤ i → ∃ r, qaL (fun out_24 => some (out_24, 0)) fuel m n out (i : Int) g c = some r
 | 0, i, out, h1, h2, _ => by omega
 | n + 1, i, out, h1, h2, h3 => by
  have hl := h.len
  rw [qaL]
  by_cases hi : i < g.length
  · obtain ⟨v, hv, hvm⟩ := zab (l := c) (i := (i : Int)) (by omega) (by omega)
    obtain ⟨q, hq, hqm⟩ := zab (l := g) (i := (i : Int)) (by omega) (by omega)
    obtain ⟨⟨y, hy⟩, ht⟩ := hm v hvm
    obtain ⟨t, ht⟩ := ht fuel hf
    obtain ⟨r, hr, _⟩ := qiR h v
    obtain ⟨s, hs⟩ := qmz h v
    have hi' : wr ((i : Int) + 1) = ((i + 1 : Nat) : Int) := by
     rw [qh2 (by omega)]
     omega
    have next := fun out ho => qoy hg h fuel hf m hm n (i + 1) out (by omega) (by omega) ho
    rw [decide_eq_true (by omega), cond_true, hv, Option.bind_some, hq, Option.bind_some, hi']
    cases (q.f0_Kind != (1 : Int)) with
    | true => exact next out (by omega)
    | false =>
     rw [cond_false, hr, Option.bind_some]
     cases (decide (r < 0)) with
     | true =>
      rw [cond_true, hs, Option.bind_some]
      cases (s == q.f1_Int) with
      | true => exact next out (by omega)
      | false =>
       rw [cond_false, hy, Option.bind_some]
       cases (decide (y.f0_Size > 200)) with
       | true => exact ⟨_, rfl⟩
       | false =>
        rw [cond_false]
        cases (decide (y.f1_Depth > 20)) with
        | true => exact ⟨_, rfl⟩
        | false =>
         rw [cond_false, ht, Option.bind_some]
         obtain ⟨j, _, hj, e⟩ := qnI _ q out 0
         rw [e, qmh _ out _ j (by omega) (by omega)]
         exact next _ (by simp; omega)
     | false =>
      rw [cond_false, hy, Option.bind_some]
      cases (decide (y.f0_Size > 200)) with
      | true => exact ⟨_, rfl⟩
      | false =>
       rw [cond_false]
       cases (decide (y.f1_Depth > 20)) with
       | true => exact ⟨_, rfl⟩
       | false =>
        rw [cond_false, ht, Option.bind_some]
        obtain ⟨j, _, hj, e⟩ := qok _ q out 0
        rw [e, qmh _ out _ j (by omega) (by omega)]
        exact next _ (by simp; omega)
  · rw [decide_eq_false (by omega), cond_false]
    exact ⟨_, rfl⟩
theorem qn6 {M : Nat} (b : List T) (fuel : Nat) (hf : 50000 < fuel) (hM : M ≤ 10000) (k : List Nd → List Int → BsR) (hk : ∀ g c, StG g c → Kd M g → g.length ≤ 20000 → ∃ r, k g c = some r) (hb : ∀ t ∈ b, zaa t ∧ wt t ≤ M) :
 ∀ (l : List T) (i : Nat) (g : List Nd) (c : List Int), i + l.length = b.length → (∀ t ∈ l, zaa t ∧ wt t ≤ M) → StG g c → Kd M g → zbu g → g.length + wtL l + wtL (b.drop i) ≤ 20000 → ∃ r, qa5 k b fuel l i g c = some r
 | [], i, g, c, _, _, hs, hkd, _, hw => by
  rw [qa5]
  exact hk g c hs hkd (by omega)
 | t :: l, i, g, c, hi, ht, hs, hkd, hv, hw => by
  rw [List.length_cons] at hi
  obtain ⟨u, hu, hum⟩ := zab (l := b) (i := (i : Int)) (by omega) (by omega)
  have hdrop : wtL (b.drop i) = wt u + wtL (b.drop (i + 1)) := by
   rw [qex] at hu
   rw [List.drop_eq_getElem_cons (by omega), wtL]
   congr 1
   rw [List.getElem?_eq_getElem (by omega)] at hu
   exact congrArg wt (Option.some.inj hu)
  rw [wtL, hdrop] at hw
  obtain ⟨x, g1, c1, e1, E1, v1, _⟩ := qke fuel t g c (ht t (List.mem_cons_self ..)).1 (by omega) (ht t (List.mem_cons_self ..)).2 hs hkd hv (by omega)
  obtain ⟨s1, k1, m1, x0, x1⟩ := E1
  have hl1 := zaA.le (M := M) (c := c) (c1 := c1) ⟨s1, k1, m1⟩
  obtain ⟨y, g2, c2, e2, E2, v2, _⟩ := qke fuel u g1 c1 (hb u hum).1 (by have := (hb u hum).2; omega) (hb u hum).2 s1 k1 v1 (by omega)
  obtain ⟨s2, k2, m2, y0, y1⟩ := E2
  have hl2 := zaA.le (M := M) (c := c1) (c1 := c2) ⟨s2, k2, m2⟩
  have hc := qsT c2
  have hcl := s2.len
  obtain ⟨ok, c3, e3, s3, _, _⟩ := qoS (g := g2) (by omega) fuel x y c2 s2 (by omega) (by omega) x0 (by omega) y0 y1
  rw [qa5, e1, Option.bind_some, hu, Option.bind_some]
  dsimp only
  rw [e2, Option.bind_some]
  dsimp only
  rw [e3, Option.bind_some]
  cases ok with
  | false => exact ⟨_, rfl⟩
  | true =>
   rw [Bool.not_true, cond_false]
   exact qn6 b fuel hf hM k hk hb l (i + 1) g2 c3 (by omega) (fun t h => ht t (List.mem_cons_of_mem _ h)) s3 k2 v2 (by omega)
theorem qqS (fuel : Nat) (hf : 50000 < fuel) (a b : List T) (hl : a.length = b.length) (ha : ∀ t ∈ a, zaa t) (hb : ∀ t ∈ b, zaa t) (wa : wtL a ≤ 10000) (wb : wtL b ≤ 10000) : ∃ r, qcF fuel a b = some r := by
 unfold qcF
 refine qn6 (M := 10000) b fuel hf (Nat.le_refl _) _ (fun g c hs hk hg => ?_) (fun t ht => ⟨hb t ht, by have := qen ht; omega⟩) a 0 [] [] (by omega) (fun t ht => ⟨ha t ht, by have := qen ht; omega⟩) ⟨rfl, fun v hv => by simp at hv, fun v hv => by simp at hv, fun q hq => by simp at hq⟩ (fun q hq => by simp at hq) (fun q hq => by simp at hq) (by simp; omega)
 obtain ⟨m, ok, e, hok⟩ := qru (M := 10000) (by omega) (by omega) hs hk fuel (by omega)
 rw [e, Option.bind_some]
 cases ok with
 | false => exact ⟨_, rfl⟩
 | true =>
  dsimp only
  rw [Bool.not_true, cond_false]
  exact qoy (M := 10000) (by omega) hs fuel (by omega) (m, true) (hok rfl) fuel 0 [] (by omega) (by omega) (by simp)
mutual
theorem qlf : ∀ t : T, zQ t = true → zaa t
 | .mk k i s ar, h => by
  refine .mk _ (fun h1 => ?_) fun u hu => ?_
  · rw [qlp h1] at h
    have h := of_decide_eq_true h
    refine ⟨qi8 (h.2.2.1.trans (by rw [Lib.toList_data])), List.eq_nil_of_length_eq_zero h.2.2.2⟩
  · by_cases h2 : k = 2
    · subst h2
      rw [qkz rfl, Bool.and_eq_true] at h
      exact qj5 ar h.2 u hu
    · have h0 : ar.length = 0 := by
       rcases Classical.em (k = 0) with e | e
       · subst e
         rw [qmY rfl] at h
         exact (of_decide_eq_true h).2.2.2
       · rcases Classical.em (k = 1) with e1 | e1
         · subst e1
           rw [qlp rfl] at h
           exact (of_decide_eq_true h).2.2.2
         · rw [qm6 (t := .mk k i s ar) e e1 h2] at h
           cases h
      rw [List.eq_nil_of_length_eq_zero h0] at hu
      cases hu
theorem qj5 : ∀ l : List T, zP l = true → ∀ t ∈ l, zaa t
 | [], _, t, ht => by cases ht
 | u :: l, h, t, ht => by
  rw [zP, Bool.and_eq_true] at h
  rcases List.mem_cons.1 ht with e | ht
  · rw [e]
    exact qlf u h.1
  · exact qj5 l h.2 t ht
end
theorem qky {t : T} (h : yc t = true) : zaa t := by
 unfold yc at h
 simp only [Bool.and_eq_true] at h
 exact qlf t h.1.1
theorem qqZ (k : BsR) (Q : BsR → Prop) (hno : Q (some ([], 2))) : ∀ l : List T, wtL l ≤ 10000 → ((∀ t ∈ l, yc t = true) → Q k) → Q (qbl k l)
 | [], _, h => by
  rw [qbl]
  exact h fun t ht => by cases ht
 | t :: l, hw, h => by
  rw [wtL] at hw
  rw [qbl, qkn t (by omega), Option.bind_some]
  cases hr : yc t with
  | false => exact hno
  | true =>
   rw [Bool.not_true, cond_false]
   refine qqZ k Q hno l (by omega) fun hl => h fun u hu => ?_
   rcases List.mem_cons.1 hu with rfl | hu
   · exact hr
   · exact hl u hu
theorem qqV (k : BsR) (Q : BsR → Prop) (hno : Q (some ([], 2))) : ∀ l : List T, wtL l ≤ 10000 → ((∀ t ∈ l, yc t = true) → Q k) → Q (qbp k l)
 | [], _, h => by
  rw [qbp]
  exact h fun t ht => by cases ht
 | t :: l, hw, h => by
  rw [wtL] at hw
  rw [qbp, qkn t (by omega), Option.bind_some]
  cases hr : yc t with
  | false => exact hno
  | true =>
   rw [Bool.not_true, cond_false]
   refine qqV k Q hno l (by omega) fun hl => h fun u hu => ?_
   rcases List.mem_cons.1 hu with rfl | hu
   · exact hr
   · exact hl u hu
theorem qrC (fuel : Nat) (hf : 50000 < fuel) (a b : List T) (wa : wtL a ≤ 10000) (wb : wtL b ≤ 10000) : ∃ r, qc1 fuel a b = some r := by
 unfold qc1
 refine qqZ _ (fun x => ∃ r, x = some r) ⟨_, rfl⟩ a wa fun ha => qqV _ (fun x => ∃ r, x = some r) ⟨_, rfl⟩ b wb fun hb => ?_
 by_cases h : a.length = b.length
 · rw [show ((a.length : Int) != (b.length : Int)) = false by simp [h], cond_false]
   obtain ⟨r, e⟩ := qqS fuel hf a b h (fun t ht => qky (ha t ht)) (fun t ht => qky (hb t ht)) wa wb
   exact ⟨_, by rw [e, Option.bind_some]⟩
 · rw [show ((a.length : Int) != (b.length : Int)) = true by simp; omega, cond_true]
   exact ⟨_, rfl⟩
theorem qiK (fuel : Nat) (hf : 50000 < fuel) (a b : T) (wa : wt a ≤ 10000) (wb : wt b ≤ 10000) : ∃ r, qbg fuel a b = some r := by
 unfold qbg qdb
 obtain ⟨r, e⟩ := qrC fuel hf [a] [b] (by simp [wtL]; omega) (by simp [wtL]; omega)
 rw [e, Option.bind_some, Option.bind_some]
 cases (r.2 == (0 : Int)) with
 | true => exact ⟨_, rfl⟩
 | false => exact ⟨_, rfl⟩
/-! ### arithmetic -/
theorem qh5 (n : Int) : ∃ b, qaK n = some b := by
 unfold qaK
 cases (decide (n ≥ -2147483648)) with
 | true => exact ⟨_, rfl⟩
 | false => exact ⟨_, rfl⟩
theorem qmk (s : ByteArray) : ∃ b, qbG s = some b := by
 unfold qbG
 cases (s.toList == (⟨#[43]⟩ : ByteArray).toList) with
 | true => exact ⟨_, rfl⟩
 | false =>
  cases (s.toList == (⟨#[45]⟩ : ByteArray).toList) with
  | true => exact ⟨_, rfl⟩
  | false =>
   cases (s.toList == (⟨#[42]⟩ : ByteArray).toList) with
   | true => exact ⟨_, rfl⟩
   | false =>
    cases (s.toList == (⟨#[47]⟩ : ByteArray).toList) with
    | true => exact ⟨_, rfl⟩
    | false => exact ⟨_, rfl⟩
theorem qqF (s : ByteArray) : ∃ b, qb0 s = some b := by
 unfold qb0
 cases (s.toList == (⟨#[43]⟩ : ByteArray).toList) with
 | true => exact ⟨_, rfl⟩
 | false =>
  cases (s.toList == (⟨#[45]⟩ : ByteArray).toList) with
  | true => exact ⟨_, rfl⟩
  | false =>
   cases (s.toList == (⟨#[42]⟩ : ByteArray).toList) with
   | true => exact ⟨_, rfl⟩
   | false =>
    cases (s.toList == (⟨#[47]⟩ : ByteArray).toList) with
    | true => exact ⟨_, rfl⟩
    | false => exact ⟨_, rfl⟩
theorem qlC (a : Int) {b : Int} (h : b ≠ 0) : ∃ r, zbs a b = some r := by
 unfold zbs
 rw [if_neg h]
 exact ⟨_, rfl⟩
theorem qp8 {n : Int} (h : qaK n = some true) : -2147483648 ≤ n ∧ n ≤ 2147483648 := by
 unfold qaK at h
 by_cases h1 : n ≥ -2147483648
 · rw [decide_eq_true h1, cond_true] at h
   have := of_decide_eq_true (Option.some.inj h)
   omega
 · rw [decide_eq_false h1, cond_false] at h
   cases h
theorem qpV (a b : Int) (hb : b ≠ 0) (h : -2147483648 ≤ b ∧ b ≤ 2147483648) : ∃ r, qcI a b = some r := by
 unfold qcI
 have hw : wr (-b) = -b := qh2 (by omega)
 rw [hw]
 cases (decide (b < 0)) with
 | true =>
  cases (decide (wr (-a) ≥ 0)) with
  | true =>
   obtain ⟨r, e⟩ := qlC (wr (-a)) (b := -b) (by omega)
   exact ⟨_, by rw [cond_true, cond_true, e, Option.bind_some]⟩
  | false =>
   obtain ⟨r, e⟩ := qlC (wr (wr (-b - 1) - wr (-a))) (b := -b) (by omega)
   exact ⟨_, by rw [cond_true, cond_false, e, Option.bind_some]⟩
 | false =>
  cases (decide (a ≥ 0)) with
  | true =>
   obtain ⟨r, e⟩ := qlC a hb
   exact ⟨_, by rw [cond_false, cond_true, e, Option.bind_some]⟩
  | false =>
   obtain ⟨r, e⟩ := qlC (wr (wr (b - 1) - a)) hb
   exact ⟨_, by rw [cond_false, cond_false, e, Option.bind_some]⟩
theorem qaX {α β : Type} {x : Option α} {f : α → Option β} (h : ∃ r, x = some r) (k : ∀ r, x = some r → ∃ s, f r = some s) : ∃ s, x.bind f = some s := by
 obtain ⟨r, e⟩ := h
 obtain ⟨s, e2⟩ := k r e
 exact ⟨s, by rw [e, Option.bind_some, e2]⟩
theorem qaM {β : Type} {b : Bool} {x y : Option β} (h : b = true → ∃ s, x = some s) (k : b = false → ∃ s, y = some s) : ∃ s, (bif b then x else y) = some s := by
 cases b with
 | true => exact h rfl
 | false => exact k rfl
theorem qay {β : Type} (a : β) : ∃ s, some a = some s := ⟨a, rfl⟩
theorem qqa (s : ByteArray) (a b : Int) : ∃ r, qci s a b = some r := by
 unfold qci
 refine qaX (qmk s) fun r _ => qaM (fun _ => qay _) fun _ => qaX (qh5 a) fun r2 _ => qaM (fun _ => qay _) fun _ => qaX (qh5 b) fun r3 hr3 => qaM (fun _ => qay _) fun h3 => ?_
 have hb := qp8 (n := b) (by
  rw [hr3]
  simpa using h3)
 refine qaM (fun _ => qaX (qh5 _) fun _ _ => qaM (fun _ => qay _) fun _ => qay _) fun _ => qaM (fun _ => qaX (qh5 _) fun _ _ => qaM (fun _ => qay _) fun _ => qay _) fun _ => qaM (fun _ => qaX (qh5 _) fun _ _ => qaM (fun _ => qay _) fun _ => qay _) fun _ => qaM (fun _ => qay _) fun hz => ?_
 refine qaX (qpV a b (by simpa using hz) hb) fun _ _ => qaM (fun _ => qaX (qh5 _) fun _ _ => qaM (fun _ => qay _) fun _ => qay _) fun _ => qaX (qh5 _) fun _ _ => qaM (fun _ => qay _) fun _ => qay _
theorem args2 {α : Type} {l : List α} (h : (l.length : Int) = 2) : ∃ a b, l = [a, b] := by
 have h : l.length = 2 := by omega
 match l, h with
 | [a, b], _ => exact ⟨a, b, rfl⟩
theorem qjE : ∀ (fuel : Nat) (t : T), wt t < fuel → ∃ r, qb7 fuel t = some r
 | 0, _, h => absurd h (Nat.not_lt_zero _)
 | fuel + 1, t, h => by
  rw [qb7]
  dsimp only
  refine qaM (fun _ => qaX (qh5 _) fun _ _ => qaM (fun _ => qay _) fun _ => qay _) fun _ => qaM (fun _ => qay _) fun _ => qaM (fun _ => qay _) fun _ => qaX (qmk _) fun _ _ => qaM (fun _ => qay _) fun _ => qaM (fun _ => qay _) fun hl => ?_
  obtain ⟨a, b, hab⟩ := args2 (l := t.ar) (by simpa using hl)
  have ha := qpr (t := t) (u := a) (by rw [hab]; simp)
  have hb := qpr (t := t) (u := b) (by rw [hab]; simp)
  rw [hab]
  refine qaX (qay a) fun q hq => ?_
  obtain rfl := Option.some.inj hq
  refine qaX (qjE fuel a (by omega)) fun _ _ => qaM (fun _ => qay _) fun _ => qaX (qay b) fun q hq => ?_
  obtain rfl := Option.some.inj hq
  exact qaX (qjE fuel b (by omega)) fun _ _ => qaM (fun _ => qay _) fun _ => qaX (qqa _ _ _) fun _ _ => qay _
theorem qhA : ∀ (fuel : Nat) (t : T), wt t < fuel → ∃ r, qbN fuel t = some r
 | 0, _, h => absurd h (Nat.not_lt_zero _)
 | fuel + 1, t, h => by
  rw [qbN]
  dsimp only
  refine qaM (fun _ => qay _) fun _ => qaM (fun _ => qay _) fun _ => qaM (fun _ => qaX (qqF _) fun _ _ => qaM (fun _ => qaM (fun hl => ?_) fun _ => qay _) fun _ => qay _) fun _ => qay _
  obtain ⟨a, b, hab⟩ := args2 (l := t.ar) (by simpa using hl)
  have ha := qpr (t := t) (u := a) (by rw [hab]; simp)
  have hb := qpr (t := t) (u := b) (by rw [hab]; simp)
  rw [hab]
  refine qaX (qay a) fun q hq => ?_
  obtain rfl := Option.some.inj hq
  refine qaX (qhA fuel a (by omega)) fun _ _ => qaM (fun _ => qaX (qay b) fun q hq => ?_) fun _ => qay _
  obtain rfl := Option.some.inj hq
  exact qaX (qhA fuel b (by omega)) fun _ _ => qay _
theorem qrO (fuel : Nat) (t : T) (h : wt t < fuel) (hm : wt t ≤ 1000000000) : qcR fuel t = some (z9 [] (yh t)) := by
 unfold qcR
 rw [qnn fuel t [] h (by simpa using hm), Option.bind_some]
theorem qi9 (fuel : Nat) (t : T) (h : wt t < fuel) (hm : wt t ≤ 1000000000) : ∃ b, qbV fuel t = some b := by
 unfold qbV
 rw [qrO fuel t h hm, Option.bind_some]
 exact ⟨_, rfl⟩
theorem qrF (b : Bool) : qaj b = some (if b = true then 1 else 2) := by
 cases b <;> rfl
theorem qfk (b : Bool) : ∃ r, qaj b = some r := ⟨_, qrF b⟩
theorem qo3 (fuel : Nat) (op : Int) (a b : T) (ha : wt a < fuel) (hb : wt b < fuel) (ha2 : wt a ≤ 1000000) (hb2 : wt b ≤ 1000000) : ∃ r, qcx fuel op a b = some r := by
 unfold qcx
 refine qaX (qhA fuel a ha) fun _ _ => qaM (fun _ => qay _) fun _ => qaX (qhA fuel b hb) fun _ _ => qaM (fun _ => qay _) fun _ => qaX (qi9 fuel a ha (by omega)) fun _ _ => qaM (fun _ => qay _) fun _ => qaX (qi9 fuel b hb (by omega)) fun _ _ => qaM (fun _ => qay _) fun _ => qaX (qjE fuel a ha) fun _ _ => qaX (qjE fuel b hb) fun _ _ => qaM (fun _ => qay _) fun _ => qaM (fun _ => qay _) fun _ => qaM (fun _ => qaX (qfk _) fun _ _ => qay _) fun _ => qaM (fun _ => qaX (qfk _) fun _ _ => qay _) fun _ => qaM (fun _ => qaX (qfk _) fun _ _ => qay _) fun _ => qaX (qfk _) fun _ _ => qay _
/-! ### Test -/
theorem qmx (g : Gl) (h : wtL g.ts ≤ 1000000) : qcy g = some (decide (5 ≤ g.op ∧ g.op ≤ 12) && zF g) := by
 unfold qcy
 by_cases h1 : g.op ≥ 5
 · rw [decide_eq_true h1, cond_true]
   by_cases h2 : g.op ≤ 12
   · rw [decide_eq_true h2, cond_true, qkg g (by omega), Option.bind_some, decide_eq_true ⟨h1, h2⟩, Bool.true_and]
   · rw [decide_eq_false h2, cond_false, decide_eq_false fun h => h2 h.2, Bool.false_and]
 · rw [decide_eq_false h1, cond_false, decide_eq_false fun h => h1 h.1, Bool.false_and]
theorem qpv {g : Gl} (h0 : g.op ≠ 0) (h : zF g = true) : zU g.op = (g.ts.length : Int) ∧ yd g.ts = true := by
 unfold zF at h
 rw [if_neg h0] at h
 simp only [Bool.and_eq_true, decide_eq_true_eq] at h
 exact ⟨h.1.2, h.2⟩
theorem qrH (fuel : Nat) (hf : 50000 < fuel) (g : Gl) (h : wtL g.ts ≤ 10000) : ∃ r, qbU fuel g = some r := by
 unfold qbU
 rw [qmx g (by omega), Option.bind_some]
 refine qaM (fun _ => qaM (fun _ => qaX ⟨_, qkg g (by omega)⟩ fun _ _ => qaX (qfk _) fun _ _ => qay _) fun _ => qaX (qfk _) fun _ _ => qay _) fun hT => ?_
 have hT : (5 ≤ g.op ∧ g.op ≤ 12) ∧ zF g = true := by
  simpa only [Bool.not_eq_false', Bool.and_eq_true, decide_eq_true_eq] using hT
 obtain ⟨⟨h5, h12⟩, hr⟩ := hT
 obtain ⟨hlen, _⟩ := qpv (by omega) hr
 have hpos : 0 < g.ts.length := by
  unfold zU at hlen
  repeat' split at hlen
  all_goals omega
 obtain ⟨a, ha, ham⟩ := zab (l := g.ts) (i := 0) (by omega) (by omega)
 have hwa := qen ham
 rw [ha, Option.bind_some]
 refine qaM (fun _ => qaM (fun _ => qay _) fun _ => qaX (qfk _) fun _ _ => qay _) fun h11 => qaM (fun _ => qaX (qi9 fuel a (by omega) (by omega)) fun _ _ => qaM (fun _ => qay _) fun _ => qay _) fun h12' => ?_
 have e11 : g.op ≠ 11 := by simpa using h11
 have e12 : g.op ≠ 12 := by simpa using h12'
 have h2 : g.ts.length = 2 := by
  unfold zU at hlen
  repeat' split at hlen
  all_goals omega
 obtain ⟨b, hb, hbm⟩ := zab (l := g.ts) (i := 1) (by omega) (by omega)
 have hwb := qen hbm
 have uni : ∃ r, ((qbg fuel a b).bind fun r_23 => (bif (!r_23) then ((qaj (g.op == (6 : Int))).bind fun r_25 => some (r_25)) else some (0))) = some r := qaX (qiK fuel hf a b (by omega) (by omega)) fun _ _ => qaM (fun _ => qaX (qfk _) fun _ _ => qay _) fun _ => qay _
 have sam : ∃ r, ((qh3 a b).bind fun r_20 => (bif r_20 then ((qaj (g.op == (5 : Int))).bind fun r_22 => some (r_22)) else ((qbg fuel a b).bind fun r_23 => (bif (!r_23) then ((qaj (g.op == (6 : Int))).bind fun r_25 => some (r_25)) else some (0))))) = some r := qaX ⟨_, qjk a b (by omega)⟩ fun _ _ => qaM (fun _ => qaX (qfk _) fun _ _ => qay _) fun _ => uni
 rw [hb, Option.bind_some]
 exact qaM (fun _ => qaM (fun _ => qaX (qo3 fuel g.op a b (by omega) (by omega) (by omega) (by omega)) fun _ _ => qay _) fun _ => sam) fun _ => sam
theorem qp6 (fuel : Nat) (hf : 50000 < fuel) (n : ByteArray) (a b : T) (h : wtL [a, b] ≤ 10000) : ∃ r, qbU fuel ⟨5, n, [a, b]⟩ = some r ∧ (r = 1 ↔ zF ⟨5, n, [a, b]⟩ = true ∧ yB a b = true) := by
 have hw : wt a ≤ 10000 ∧ wt b ≤ 10000 := by
  simp only [wtL] at h
  omega
 unfold qbU
 rw [qmx ⟨5, n, [a, b]⟩ (show wtL [a, b] ≤ 1000000 by omega), Option.bind_some]
 dsimp only
 cases hr : zF ⟨5, n, [a, b]⟩ with
 | false => exact ⟨2, rfl, by simp⟩
 | true =>
  have ha : zw [a, b] 0 = some a := rfl
  have hb : zw [a, b] 1 = some b := rfl
  rw [ha, Option.bind_some, hb, Option.bind_some, qjk a b (by omega), Option.bind_some]
  cases hs : yB a b with
  | true => exact ⟨1, rfl, by simp⟩
  | false =>
   obtain ⟨r, e⟩ := qiK fuel hf a b hw.1 hw.2
   rw [e, Option.bind_some]
   cases r with
   | true => exact ⟨0, rfl, by simp⟩
   | false => exact ⟨2, rfl, by simp⟩
abbrev En := List (Int × T)
/-! ### environments -/
theorem qom (v : Int) (k : Option Int) : ∀ (l : En) (i : Nat), (zH l v = none ∧ qaU k v l i = k) ∨ ∃ (j : Nat) (q : Int × T), qaU k v l i = some ((i + j : Nat) : Int) ∧ l[j]? = some q ∧ zH l v = some q.2
 | [], i => .inl ⟨rfl, by rw [qaU]⟩
 | q :: l, i => by
  rw [qaU, zH]
  by_cases h : q.1 = v
  · rw [if_pos h, uT h, cond_true]
    exact .inr ⟨0, q, rfl, rfl, rfl⟩
  · rw [if_neg h, uF h, cond_false]
    rcases qom v k l (i + 1) with h | ⟨j, p, h1, h2, h3⟩
    · exact .inl h
    · exact .inr ⟨j + 1, p, by rw [h1, show i + 1 + j = i + (j + 1) by omega], by simpa using h2, h3⟩
theorem qnF (env : En) (v : Int) : (zH env v = none ∧ qck env v = some (-1)) ∨ ∃ (r : Int) (q : Int × T), qck env v = some r ∧ 0 ≤ r ∧ zw env r = some q ∧ zH env v = some q.2 ∧ q ∈ env := by
 rcases qom v (some (-1)) env 0 with h | ⟨j, q, h1, h2, h3⟩
 · exact .inl h
 · rw [Nat.zero_add] at h1
   exact .inr ⟨_, q, h1, by omega, by rw [qex]; exact h2, h3, List.mem_of_getElem? h2⟩
theorem qmJ (k : Int → Option En) (b : Int × T) : ∀ (l : En) (i : Nat), ∃ j : Nat, i ≤ j ∧ j ≤ i + l.length ∧ qa0 k b l i = k (j : Int)
 | [], i => ⟨i, Nat.le_refl _, Nat.le_refl _, by rw [qa0]⟩
 | x :: l, i => by
  rw [qa0, List.length_cons]
  by_cases h : x.1 ≤ b.1
  · obtain ⟨j, h1, h2, e⟩ := qmJ k b l (i + 1)
    exact ⟨j, by omega, by omega, by rw [decide_eq_true h, cond_true, e]⟩
  · exact ⟨i, Nat.le_refl _, by omega, by rw [decide_eq_false h, cond_false]⟩
def upd (f : Int → Option T) (v : Int) (u : T) : Int → Option T := fun x => if x = v then some u else f x
theorem qo8 (l : En) (j : Nat) (v : Int) : zH l v = (zH (l.take j) v).or (zH (l.drop j) v) := by rw [← qiI, List.take_append_drop]
theorem qpz (env : En) (v : Int) (u : T) (hl : env.length ≤ 1000000) (h : zH env v = none) : ∃ env', qcz env (v, u) = some env' ∧ env'.length = env.length + 1 ∧ zH env' = upd (zH env) v u ∧ ∀ q ∈ env', q ∈ env ∨ q = (v, u) := by
 unfold qcz
 obtain ⟨j, _, hj, e⟩ := qmJ (fun k_3 => ((y9 env 0 k_3).bind fun l_5 => ((zY 64 [] l_5).bind fun l_6 => ((zY 64 l_6 [(v, u)]).bind fun l_8 => ((y9 env k_3 (env.length : Int)).bind fun l_10 => ((zY 64 l_8 l_10).bind fun l_11 => some (l_11))))))) (v, u) env 0
 have h1 : y9 env 0 (j : Int) = some (env.take j) := by
  unfold y9
  rw [if_pos (by omega)]
  simp
 have h2 : y9 env (j : Int) (env.length : Int) = some (env.drop j) := by
  unfold y9
  rw [if_pos (by omega)]
  simp
 refine ⟨env.take j ++ [(v, u)] ++ env.drop j, ?_, by simp; omega, funext fun x => ?_, fun q hq => ?_⟩
 · rw [e, h1, Option.bind_some, qpt (by omega) (by simp; omega), Option.bind_some, List.nil_append, qpt (by omega) (by simp; omega), Option.bind_some, h2, Option.bind_some, qpt (by omega) (by simp; omega), Option.bind_some]
 · have hs := qo8 env j
   rw [List.append_assoc, qiI, qiI]
   unfold upd
   by_cases hx : x = v
   · subst hx
     have h0 := hs x
     rw [h] at h0
     have h3 : zH (env.take j) x = none := by
      cases hc : zH (env.take j) x with
      | none => rfl
      | some a =>
       rw [hc] at h0
       cases h0
     rw [h3, if_pos rfl]
     simp [zH]
   · rw [if_neg hx, hs x]
     have : zH [(v, u)] x = none := by
      rw [zH, if_neg (fun e => hx e.symm), zH]
     rw [this, Option.none_or]
 · simp only [List.mem_append, List.mem_singleton] at hq
   rcases hq with (hq | hq) | hq
   · exact .inl (List.mem_of_mem_take hq)
   · exact .inr hq
   · exact .inl (List.mem_of_mem_drop hq)
/-! ### what stands where a pattern has its variables -/
open Classical in
mutual
noncomputable def vT : T → T → Option (List T)
 | .mk k i s ar, t => if k = 2 then (if t.k = 2 ∧ s = t.s then vL ar t.ar else none) else if k = 1 then some [t] else if yB (.mk k i s ar) t = true then some [] else none
noncomputable def vL : List T → List T → Option (List T)
 | [], [] => some []
 | p :: ps, t :: ts => (vT p t).bind fun a => (vL ps ts).bind fun b => some (a ++ b)
 | [], _ :: _ => none
 | _ :: _, [] => none
end
theorem qmt {p : T} (h : p.k = 2) (t : T) : vT p t = if t.k = 2 ∧ p.s = t.s then vL p.ar t.ar else none := by
 cases p
 simp only [T.k] at h
 subst h
 rw [vT, if_pos rfl]
 rfl
theorem qmL {p : T} (h : p.k = 1) (t : T) : vT p t = some [t] := by
 cases p
 simp only [T.k] at h
 subst h
 rw [vT, if_neg (by omega), if_pos rfl]
theorem qqR {p : T} (h1 : p.k ≠ 1) (h2 : p.k ≠ 2) (t : T) : vT p t = if yB p t = true then some [] else none := by
 cases p
 simp only [T.k] at h1 h2
 rw [vT, if_neg h2, if_neg h1]
mutual
theorem qrY : ∀ (p t : T) (l : List T), vT p t = some l → l.length = (yh p).length
 | .mk k i s ar, t, l, h => by
  rcases y4 k with h1 | h2 | ⟨h1, h2⟩
  · subst h1
    rw [qmL rfl] at h
    obtain rfl := Option.some.inj h
    rw [qgH]
    rfl
  · subst h2
    rw [qmt rfl] at h
    split at h
    · rw [qjg]
      exact qob ar t.ar l h
    · cases h
  · rw [qqR (p := .mk k i s ar) h1 h2] at h
    split at h
    · obtain rfl := Option.some.inj h
      rw [qmQ h1 h2]
      rfl
    · cases h
theorem qob : ∀ (ps ts l : List T), vL ps ts = some l → l.length = (zm ps).length
 | [], [], l, h => by
  rw [vL] at h
  obtain rfl := Option.some.inj h
  rfl
 | p :: ps, t :: ts, l, h => by
  rw [vL] at h
  cases ha : vT p t with
  | none =>
   rw [ha] at h
   cases h
  | some a =>
   cases hb : vL ps ts with
   | none =>
    rw [ha, hb] at h
    cases h
   | some b =>
    rw [ha, hb] at h
    obtain rfl := Option.some.inj h
    rw [zm, List.length_append, List.length_append, qrY p t a ha, qob ps ts b hb]
 | [], _ :: _, l, h => by
  rw [vL] at h
  cases h
 | _ :: _, [], l, h => by
  rw [vL] at h
  cases h
end
mutual
theorem qs5 : ∀ (p t : T) (l : List Int), vT (zaj p l) t = vT p t
 | .mk k i s ar, t, l => by
  rcases y4 k with h1 | h2 | ⟨h1, h2⟩
  · subst h1
    rw [qiD, qmL rfl, qmL rfl]
  · subst h2
    rw [qiw, qmt rfl, qmt rfl]
    show (if t.k = 2 ∧ s = t.s then vL (yG ar l) t.ar else none) = if t.k = 2 ∧ s = t.s then vL ar t.ar else none
    rw [qnR ar t.ar l]
  · rw [qhT h1 h2]
theorem qnR : ∀ (ps ts : List T) (l : List Int), vL (yG ps l) ts = vL ps ts
 | [], ts, l => by rw [yG]
 | p :: ps, [], l => by rw [yG, vL, vL]
 | p :: ps, t :: ts, l => by rw [yG, vL, vL, qs5 p t, qnR ps ts]
end
noncomputable def vH : List At → List At → Option (List T)
 | [], [] => some []
 | p :: ps, t :: ts => if p.n = t.n then (vL p.ts t.ts).bind fun a => (vH ps ts).bind fun b => some (a ++ b) else none
 | [], _ :: _ => none
 | _ :: _, [] => none
theorem qqb : ∀ (ps ts : List At) (l : List T), vH ps ts = some l → l.length = (zA ps).length
 | [], [], l, h => by
  rw [vH] at h
  obtain rfl := Option.some.inj h
  rfl
 | p :: ps, t :: ts, l, h => by
  rw [vH] at h
  split at h
  · cases ha : vL p.ts t.ts with
    | none =>
     rw [ha] at h
     cases h
    | some a =>
     cases hb : vH ps ts with
     | none =>
      rw [ha, hb] at h
      cases h
     | some b =>
      rw [ha, hb] at h
      obtain rfl := Option.some.inj h
      rw [zA, List.length_append, List.length_append, qob _ _ a ha, qqb ps ts b hb]
  · cases h
 | [], _ :: _, l, h => by
  rw [vH] at h
  cases h
 | _ :: _, [], l, h => by
  rw [vH] at h
  cases h
theorem qsd : ∀ (ps ts : List At) (l : List Int), vH (yD ps l) ts = vH ps ts
 | [], ts, l => by rw [yD]
 | p :: ps, [], l => by rw [yD, vH, vH]
 | p :: ps, t :: ts, l => by rw [yD, vH, vH, qnR, qsd ps ts]
theorem qqW : ∀ (ps ts : List At), ps.length ≠ ts.length → vH ps ts = none
 | [], [], h => absurd rfl h
 | p :: ps, t :: ts, h => by
  rw [vH, qqW ps ts (by simpa using h)]
  split
  · cases vL p.ts t.ts <;> rfl
  · rfl
 | [], _ :: _, _ => by rw [vH]
 | _ :: _, [], _ => by rw [vH]
theorem qkt : ∀ a b : List At, zA (a ++ b) = zA a ++ zA b
 | [], b => rfl
 | x :: a, b => by rw [List.cons_append, zA, zA, qkt a b, List.append_assoc]
/-! ### binding -/
open Classical in
noncomputable def rn : (Int → Option T) → List (Int × T) → Option (Int → Option T)
 | f, [] => some f
 | f, (v, u) :: ps => match f v with
  | none => rn (upd f v u) ps
  | some u' => if yB u' u = true then rn f ps else none
theorem qgA {f : Int → Option T} {v : Int} (h : f v = none) (u : T) (ps : List (Int × T)) : rn f ((v, u) :: ps) = rn (upd f v u) ps := by rw [rn, h]
theorem qhS {f : Int → Option T} {v : Int} {w : T} (h : f v = some w) (u : T) (ps : List (Int × T)) : rn f ((v, u) :: ps) = if yB w u = true then rn f ps else none := by rw [rn, h]
theorem qq0 : ∀ (a b : List (Int × T)) (f : Int → Option T), rn f (a ++ b) = (rn f a).bind fun g => rn g b
 | [], b, f => by rw [List.nil_append, rn, Option.bind_some]
 | (v, u) :: a, b, f => by
  cases h : f v with
  | none => rw [List.cons_append, qgA h, qgA h, qq0 a b]
  | some w =>
   rw [List.cons_append, qhS h, qhS h]
   split
   · exact qq0 a b f
   · rfl
noncomputable def mtc (f : Int → Option T) (o : List Int) (v : Option (List T)) : Option (Int → Option T) := v.bind fun l => rn f (o.zip l)
theorem qqx {f : Int → Option T} {o1 o2 : List Int} {v1 v2 : Option (List T)} (h : ∀ l, v1 = some l → l.length = o1.length) : mtc f (o1 ++ o2) (v1.bind fun a => v2.bind fun b => some (a ++ b)) = (mtc f o1 v1).bind fun g => mtc g o2 v2 := by
 unfold mtc
 cases v1 with
 | none => rfl
 | some a =>
  have ha := h a rfl
  cases v2 with
  | none =>
   simp only [Option.bind_some, Option.bind_none]
   cases rn f (o1.zip a) <;> rfl
  | some b =>
   simp only [Option.bind_some]
   rw [List.zip_append ha.symm, qq0]
def EnW (W : Nat) (env : En) : Prop := ∀ q ∈ env, wt q.2 ≤ W
def zbC (W : Nat) (env : En) (n : Nat) (x : Option (Int → Option T)) (r : Option (En × Bool)) : Prop := ∃ env' ok, r = some (env', ok) ∧ ((ok = false ∧ x = none) ∨ (ok = true ∧ x = some (zH env') ∧ env'.length ≤ env.length + n ∧ EnW W env'))
theorem qpS (a b : T) (h : wt a ≤ 1000000) : qh3 a b = some (yB a b) := qjk a b (by omega)
theorem qss {W : Nat} (hW : W ≤ 1000000) {rec : En → List T → List T → Option (En × Bool)} {p t : T} {env : En} (hr : p.k = 2 → t.k = 2 → zbC W env (zm p.ar).length (mtc (zH env) (zm p.ar) (vL p.ar t.ar)) (rec env p.ar t.ar)) (he : EnW W env) (hp : wt p ≤ 1000000) (ht : wt t ≤ W) (hl : env.length ≤ 1000000) :
 zbC W env (yh p).length (mtc (zH env) (yh p) (vT p t)) (qcL rec env p t) := by
 unfold qcL
 rcases y4 p.k with h1 | h2 | ⟨h1, h2⟩
 · rw [uF (show p.k ≠ 2 by omega), cond_false, show (p.k != (1 : Int)) = false by simp [h1], cond_false, qmL h1, qjq h1]
   unfold mtc
   rw [Option.bind_some]
   show zbC W env 1 (rn (zH env) [(p.i, t)]) _
   rcases qnF env p.i with ⟨hn, e⟩ | ⟨r, q, e, h0, hq, hm, hqm⟩
   · rw [e, Option.bind_some, decide_eq_true (by omega), cond_true, qgA hn]
     obtain ⟨env', e', hl', hg, hmem⟩ := qpz env p.i t hl hn
     refine ⟨env', true, by rw [e', Option.bind_some], .inr ⟨rfl, by rw [rn, hg], by omega, fun q hq => ?_⟩⟩
     rcases hmem q hq with hq | rfl
     · exact he q hq
     · exact ht
   · have hqw := he q hqm
     rw [e, Option.bind_some, decide_eq_false (by omega), cond_false, hq, Option.bind_some, qpS _ _ (by omega), Option.bind_some, qhS hm]
     cases hs : yB q.2 t with
     | false => exact ⟨_, _, rfl, .inl ⟨rfl, rfl⟩⟩
     | true => exact ⟨_, _, rfl, .inr ⟨rfl, by rw [if_pos rfl, rn], by omega, he⟩⟩
 · rw [uT h2, cond_true, qmt h2, qiX h2]
   by_cases ht2 : t.k = 2
   · rw [show (t.k != (2 : Int)) = false by simp [ht2], cond_false]
     by_cases hs : p.s = t.s
     · rw [if_pos ⟨ht2, hs⟩, show (!(p.s.toList == t.s.toList)) = false by simp [hs], cond_false]
       obtain ⟨env', ok, e, h⟩ := hr h2 ht2
       exact ⟨env', ok, by rw [e, Option.bind_some], h⟩
     · rw [if_neg fun h => hs h.2, show (!(p.s.toList == t.s.toList)) = true by
        simp only [Bool.not_eq_true', beq_eq_false_iff_ne]
        exact fun e => hs (qi8 e), cond_true]
       exact ⟨_, _, rfl, .inl ⟨rfl, rfl⟩⟩
   · rw [show (t.k != (2 : Int)) = true by simp [ht2], cond_true, if_neg fun h => ht2 h.1]
     exact ⟨_, _, rfl, .inl ⟨rfl, rfl⟩⟩
 · rw [uF h2, cond_false, show (p.k != (1 : Int)) = true by simp [h1], cond_true, qqR h1 h2, qoq h1 h2, qpS _ _ hp, Option.bind_some]
   cases hs : yB p t with
   | false => exact ⟨_, _, rfl, .inl ⟨rfl, rfl⟩⟩
   | true => exact ⟨_, _, rfl, .inr ⟨rfl, by rw [if_pos rfl]; rfl, by omega, he⟩⟩
theorem qnY {W : Nat} (hW : W ≤ 1000000) {rec : En → List T → List T → Option (En × Bool)} (all : List T) (N : Nat) (hN : N ≤ 1000000) :
 ∀ (ps ts : List T) (i : Nat) (env : En), all.drop i = ps → ps.length = ts.length → (∀ p ∈ ps, ∀ t ∈ ts, ∀ env : En, EnW W env → env.length + (zm p.ar).length ≤ N → p.k = 2 → t.k = 2 → zbC W env (zm p.ar).length (mtc (zH env) (zm p.ar) (vL p.ar t.ar)) (rec env p.ar t.ar)) → EnW W env → (∀ p ∈ ps, wt p ≤ 1000000) → (∀ t ∈ ts, wt t ≤ W) → env.length + (zm ps).length ≤ N →
  zbC W env (zm ps).length (mtc (zH env) (zm ps) (vL ps ts)) (qaC (fun env_5 ok_6 => some (env_5, ok_6)) rec all ts env true i)
 | [], [], i, env, _, _, _, he, _, _, _ => by
  rw [qaC, vL]
  exact ⟨env, true, rfl, .inr ⟨rfl, rfl, by omega, he⟩⟩
 | [], _ :: _, i, env, _, h, _, _, _, _, _ => by cases h
 | _ :: _, [], i, env, _, h, _, _, _, _, _ => by cases h
 | p :: ps, t :: ts, i, env, hd, hl, hr, he, hp, ht, hn => by
  rw [zm, List.length_append] at hn
  have hi : i < all.length := by
   rcases Nat.lt_or_ge i all.length with h | h
   · exact h
   · rw [List.drop_eq_nil_of_le h] at hd
     cases hd
  rw [List.drop_eq_getElem_cons hi] at hd
  obtain ⟨hd1, hd2⟩ := List.cons.inj hd
  have hg : zw all (i : Int) = some p := by rw [qex, List.getElem?_eq_getElem hi, hd1]
  have hfun : p.k = 2 → (zm p.ar).length = (yh p).length := fun h => by rw [qiX h]
  obtain ⟨env1, ok1, e1, h1⟩ := qss hW (rec := rec) (p := p) (t := t) (env := env) (fun h2 ht2 => hr p (List.mem_cons_self ..) t (List.mem_cons_self ..) env he (by have := hfun h2; omega) h2 ht2) he (hp p (List.mem_cons_self ..)) (ht t (List.mem_cons_self ..)) (by omega)
  rw [qaC, cond_true, hg, Option.bind_some, e1, Option.bind_some, vL, zm, qqx fun l hl => qrY p t l hl]
  dsimp only
  rcases h1 with ⟨rfl, hx⟩ | ⟨rfl, hx, hlen, he1⟩
  · refine ⟨env1, false, ?_, .inl ⟨rfl, by rw [hx]; rfl⟩⟩
    cases ts with
    | nil => rw [qaC]
    | cons t2 ts => rw [qaC, cond_false]
  · rw [hx, Option.bind_some]
    obtain ⟨env2, ok2, e2, h2⟩ := qnY hW all N hN ps ts (i + 1) env1 hd2 (by simpa using hl) (fun p hp t ht => hr p (List.mem_cons_of_mem _ hp) t (List.mem_cons_of_mem _ ht)) he1 (fun p h => hp p (List.mem_cons_of_mem _ h)) (fun t h => ht t (List.mem_cons_of_mem _ h)) (by omega)
    refine ⟨env2, ok2, e2, h2.imp id fun ⟨a, b, c, d⟩ => ⟨a, b, ?_, d⟩⟩
    rw [List.length_append]
    omega
theorem qqu : ∀ (ps ts : List T), ps.length ≠ ts.length → vL ps ts = none
 | [], [], h => absurd rfl h
 | p :: ps, t :: ts, h => by
  rw [vL, qqu ps ts (by simpa using h)]
  cases vT p t <;> rfl
 | [], _ :: _, _ => by rw [vL]
 | _ :: _, [], _ => by rw [vL]
theorem qoD {W : Nat} (hW : W ≤ 1000000) (N : Nat) (hN : N ≤ 1000000) : ∀ (fuel : Nat) (ps ts : List T) (env : En), wtL ps < fuel → wtL ps ≤ 1000000 → wtL ts ≤ W → EnW W env → env.length + (zm ps).length ≤ N →
 zbC W env (zm ps).length (mtc (zH env) (zm ps) (vL ps ts)) (qch fuel env ps ts)
 | 0, _, _, _, h, _, _, _, _ => absurd h (Nat.not_lt_zero _)
 | fuel + 1, ps, ts, env, hf, hp, ht, he, hn => by
  rw [qch]
  dsimp only
  by_cases h : ps.length = ts.length
  · rw [show ((ps.length : Int) != (ts.length : Int)) = false by simp [h], cond_false]
    refine qnY hW ps N hN ps ts 0 env rfl h (fun p hpm t htm env he hn h2 ht2 => ?_) he (fun p hpm => by have := qen hpm; omega) (fun t htm => by have := qen htm; omega) hn
    have h1 := qen hpm
    have h3 := qen htm
    have h4 := qeT p
    have h5 := qeT t
    exact qoD hW N hN fuel p.ar t.ar env (by omega) (by omega) (by omega) he hn
  · rw [show ((ps.length : Int) != (ts.length : Int)) = true by simp; omega, cond_true, qqu ps ts h]
    exact ⟨_, _, rfl, .inl ⟨rfl, rfl⟩⟩
theorem qsM {W : Nat} (hW : W ≤ 1000000) (fuel : Nat) (p a : At) (env : En) (hf : wtL p.ts < fuel) (hp : wtL p.ts ≤ 1000000) (ha : wtL a.ts ≤ W) (he : EnW W env) (hn : env.length + (zm p.ts).length ≤ 1000000) :
 zbC W env (zm p.ts).length (mtc (zH env) (zm p.ts) (if p.n = a.n then vL p.ts a.ts else none)) (qcT fuel env p a) := by
 unfold qcT
 by_cases h : p.n = a.n
 · rw [if_pos h, show (!(p.n.toList == a.n.toList)) = false by simp [h], cond_false]
   obtain ⟨env', ok, e, h⟩ := qoD hW 1000000 (Nat.le_refl _) fuel p.ts a.ts env hf hp ha he hn
   exact ⟨env', ok, by rw [e, Option.bind_some], h⟩
 · rw [if_neg h, show (!(p.n.toList == a.n.toList)) = true by
    simp only [Bool.not_eq_true', beq_eq_false_iff_ne]
    exact fun e => h (qi8 e), cond_true]
   exact ⟨_, _, rfl, .inl ⟨rfl, rfl⟩⟩
theorem qoY {W : Nat} (hW : W ≤ 1000000) (fuel : Nat) (k : En → Bool → Option Bool) (all : List At) (hf : wA all < fuel) (hfm : wA all ≤ 1000000) :
 ∀ (ps ts : List At) (i : Nat) (env : En), all.drop i = ps → ps.length = ts.length → (∀ p ∈ ps, wtL p.ts ≤ wA all) → (∀ t ∈ ts, wtL t.ts ≤ W) → EnW W env → env.length + (zA ps).length ≤ 1000000 →
  ∃ env' ok, q8 k fuel all ts env true i = k env' ok ∧ ((ok = false ∧ mtc (zH env) (zA ps) (vH ps ts) = none) ∨ (ok = true ∧ mtc (zH env) (zA ps) (vH ps ts) = some (zH env') ∧ EnW W env'))
 | [], [], i, env, _, _, _, _, he, _ => by
  rw [q8, vH]
  exact ⟨env, true, rfl, .inr ⟨rfl, rfl, he⟩⟩
 | [], _ :: _, i, env, _, h, _, _, _, _ => by cases h
 | _ :: _, [], i, env, _, h, _, _, _, _ => by cases h
 | p :: ps, t :: ts, i, env, hd, hl, hp, ht, he, hn => by
  rw [zA, List.length_append] at hn
  have hi : i < all.length := by
   rcases Nat.lt_or_ge i all.length with h | h
   · exact h
   · rw [List.drop_eq_nil_of_le h] at hd
     cases hd
  rw [List.drop_eq_getElem_cons hi] at hd
  obtain ⟨hd1, hd2⟩ := List.cons.inj hd
  have hg : zw all (i : Int) = some p := by rw [qex, List.getElem?_eq_getElem hi, hd1]
  have hpw := hp p (List.mem_cons_self ..)
  obtain ⟨env1, ok1, e1, h1⟩ := qsM hW fuel p t env (by omega) (by omega) (ht t (List.mem_cons_self ..)) he (by omega)
  have hv : vH (p :: ps) (t :: ts) = ((if p.n = t.n then vL p.ts t.ts else none).bind fun a => (vH ps ts).bind fun b => some (a ++ b)) := by
   rw [vH]
   split <;> rfl
  rw [q8, cond_true, hg, Option.bind_some, e1, Option.bind_some, hv, zA, qqx fun l hl => by
   split at hl
   · exact qob _ _ l hl
   · cases hl]
  dsimp only
  rcases h1 with ⟨rfl, hx⟩ | ⟨rfl, hx, hlen, he1⟩
  · refine ⟨env1, false, ?_, .inl ⟨rfl, by rw [hx]; rfl⟩⟩
    cases ts with
    | nil => rw [q8]
    | cons t2 ts => rw [q8, cond_false]
  · rw [hx, Option.bind_some]
    exact qoY hW fuel k all hf hfm ps ts (i + 1) env1 hd2 (by simpa using hl) (fun p h => hp p (List.mem_cons_of_mem _ h)) (fun t h => ht t (List.mem_cons_of_mem _ h)) he1 (by omega)
/-! ### occurrences -/
theorem qpM (r : qG) (hB : Bd 100000 (toR r)) : qcH r = some (r.f1_Keep ++ r.f2_Remove) := by
 have h1 := hB.a
 have h2 := hB.b
 simp only [toR] at h1 h2
 have l1 := qj4 r.f1_Keep
 have l2 := qj4 r.f2_Remove
 rw [qcH, qgI (by omega) (by simp; omega), Option.bind_some, List.nil_append, qgI (by omega) (by omega), Option.bind_some]
/-! ### the reference's linear form -/
theorem qoh {t : T} {v : Int} : ∀ {ts : List T}, t ∈ ts → v ∈ yh t → v ∈ zm ts
 | u :: ts, h, hv => by
  rw [zm]
  rcases List.mem_cons.1 h with rfl | h
  · exact List.mem_append_left _ hv
  · exact List.mem_append_right _ (qoh h hv)
/-! ### instances -/
mutual
def zbg (f : Int → Option T) : T → T
 | .mk k i s ar => if k = 2 then .mk 2 0 s (yW f ar) else if k = 1 then (f i).getD (.mk 1 i s ar) else if k = 0 then .mk 0 i ⟨#[]⟩ [] else .mk k i s ar
def yW (f : Int → Option T) : List T → List T
 | [] => []
 | t :: ts => zbg f t :: yW f ts
end
theorem qjF (f : Int → Option T) {t : T} (h : t.k = 2) : zbg f t = .mk 2 0 t.s (yW f t.ar) := by
 cases t
 simp only [T.k] at h
 subst h
 rw [zbg, if_pos rfl]
 rfl
theorem qig {f : Int → Option T} {t : T} (h : t.k = 1) {u : T} (hu : f t.i = some u) : zbg f t = u := by
 cases t
 simp only [T.k] at h
 simp only [T.i] at hu
 subst h
 rw [zbg, if_neg (by omega), if_pos rfl, hu]
 rfl
theorem qjH (f : Int → Option T) {t : T} (h1 : t.k ≠ 1) (h2 : t.k ≠ 2) : zbg f t = if t.k = 0 then .mk 0 t.i ⟨#[]⟩ [] else t := by
 cases t
 simp only [T.k] at h1 h2
 rw [zbg, if_neg h2, if_neg h1]
 rfl
theorem qsY {rec : En → Int → List T → Option (List T)} {env : En} {t : T} (hr : t.k = 2 → rec env 1000 t.ar = some (yW (zH env) t.ar)) (hk : ∀ v ∈ yh t, zH env v ≠ none) : qcf rec env 1000 t = some (zbg (zH env) t) := by
 unfold qcf
 rcases y4 t.k with h1 | h2 | ⟨h1, h2⟩
 · rw [uF (show t.k ≠ 2 by omega), cond_false, uT h1, cond_true]
   have hk := hk t.i (by rw [qjq h1]; simp)
   rcases qnF env t.i with ⟨hn, _⟩ | ⟨r, q, e, h0, hq, hm, _⟩
   · exact absurd hn hk
   · rw [e, Option.bind_some, decide_eq_true (by omega), cond_true, hq, Option.bind_some, qig h1 hm]
 · rw [uT h2, cond_true, hr h2, Option.bind_some, qjF _ h2]
 · rw [uF h2, cond_false, uF h1, cond_false, qjH _ h1 h2]
   by_cases h0 : t.k = 0
   · rw [uT h0, cond_true, if_pos h0]
     rfl
   · rw [uF h0, cond_false, if_neg h0]
theorem qnE {rec : En → Int → List T → Option (List T)} {env : En} : ∀ (ts out : List T), (∀ t ∈ ts, t.k = 2 → rec env 1000 t.ar = some (yW (zH env) t.ar)) → (∀ v ∈ zm ts, zH env v ≠ none) → out.length + ts.length ≤ 1000000 → qaF (fun out_7 => some out_7) rec env 1000 ts out = some (out ++ yW (zH env) ts)
 | [], out, _, _, _ => by rw [qaF, yW, List.append_nil]
 | t :: ts, out, hr, hk, hl => by
  rw [List.length_cons] at hl
  rw [qaF, qsY (fun h => hr t (List.mem_cons_self ..) h) (fun v hv => hk v (by rw [zm]; exact List.mem_append_left _ hv)), Option.bind_some, zbh (by omega) hl, Option.bind_some,
   qnE ts _ (fun t h => hr t (List.mem_cons_of_mem _ h)) (fun v hv => hk v (by rw [zm]; exact List.mem_append_right _ hv)) (by rw [List.length_append, List.length_singleton]; omega), yW, List.append_assoc, List.singleton_append]
theorem qog (env : En) : ∀ (fuel : Nat) (ts : List T), wtL ts < fuel → wtL ts ≤ 1000000 → (∀ v ∈ zm ts, zH env v ≠ none) → qbX fuel env 1000 ts = some (yW (zH env) ts)
 | 0, _, h, _, _ => absurd h (Nat.not_lt_zero _)
 | fuel + 1, ts, h, hw, hk => by
  have := qeH ts
  rw [qbX]
  dsimp only
  rw [qnE ts [] (fun t ht h2 => ?_) hk (by simp; omega), List.nil_append]
  have h1 := qen ht
  have h3 := qeT t
  refine qog env fuel t.ar (by omega) (by omega) fun v hv => hk v ?_
  rw [← qiX h2] at hv
  exact qoh ht hv
mutual
theorem qsq {ρ : Int → Int} {f g : Int → Option T} : ∀ t : T, (∀ v ∈ yh t, g (ρ v) = f v ∧ f v ≠ none) → zbg g (zbe ρ t) = zbg f t
 | .mk k i s ar, h => by
  rcases y4 k with h1 | h2 | ⟨h1, h2⟩
  · subst h1
    obtain ⟨h3, h4⟩ := h i (by rw [qgH]; simp)
    obtain ⟨u, hu⟩ := Option.ne_none_iff_exists'.1 h4
    rw [zbe, if_pos rfl, qig (t := .mk 1 (ρ i) s ar) rfl (h3.trans hu), qig (t := .mk 1 i s ar) rfl hu]
  · subst h2
    rw [zbe, if_neg (by omega), if_pos rfl, qjF _ rfl, qjF _ rfl]
    show T.mk 2 0 s (yW g (zaR ρ ar)) = T.mk 2 0 s (yW f ar)
    rw [qjQ ar fun v hv => h v (by rw [qjg]; exact hv)]
  · rw [zbe, if_neg h1, if_neg h2, qjH (t := .mk k i s ar) _ h1 h2, qjH (t := .mk k i s ar) _ h1 h2]
theorem qjQ {ρ : Int → Int} {f g : Int → Option T} : ∀ ts : List T, (∀ v ∈ zm ts, g (ρ v) = f v ∧ f v ≠ none) → yW g (zaR ρ ts) = yW f ts
 | [], _ => rfl
 | t :: ts, h => by rw [zaR, yW, yW, qsq t fun v hv => h v (by rw [zm]; exact List.mem_append_left _ hv), qjQ ts fun v hv => h v (by rw [zm]; exact List.mem_append_right _ hv)]
end
mutual
theorem qtf {W : Nat} (hW : 1 ≤ W) {f : Int → Option T} (hf : ∀ v u, f v = some u → wt u ≤ W) : ∀ t : T, (∀ v ∈ yh t, f v ≠ none) → wt (zbg f t) ≤ wt t * W
 | .mk k i s ar, h => by
  have hm : 1 * 1 ≤ wt (.mk k i s ar) * W := Nat.mul_le_mul (by rw [qeT]; omega) hW
  rcases y4 k with h1 | h2 | ⟨h1, h2⟩
  · subst h1
    obtain ⟨u, hu⟩ := Option.ne_none_iff_exists'.1 (h i (by rw [qgH]; simp))
    rw [qig (t := .mk 1 i s ar) rfl hu]
    have := hf i u hu
    have h3 : 1 * W ≤ wt (.mk 1 i s ar) * W := Nat.mul_le_mul_right _ (by rw [qeT]; omega)
    omega
  · subst h2
    rw [qjF _ rfl]
    have := qnr hW hf ar fun v hv => h v (by rw [qjg]; exact hv)
    rw [wt, wt, Nat.add_mul]
    show 1 + wtL (yW f ar) ≤ 1 * W + wtL ar * W
    omega
  · rw [qjH (t := .mk k i s ar) _ h1 h2]
    split
    · rw [wt, wtL]
      omega
    · exact Nat.le_mul_of_pos_right _ hW
theorem qnr {W : Nat} (hW : 1 ≤ W) {f : Int → Option T} (hf : ∀ v u, f v = some u → wt u ≤ W) : ∀ ts : List T, (∀ v ∈ zm ts, f v ≠ none) → wtL (yW f ts) ≤ wtL ts * W
 | [], _ => by rw [yW, wtL]; omega
 | t :: ts, h => by
  have h1 := qtf hW hf t fun v hv => h v (by rw [zm]; exact List.mem_append_left _ hv)
  have h2 := qnr hW hf ts fun v hv => h v (by rw [zm]; exact List.mem_append_right _ hv)
  rw [yW, wtL, wtL, Nat.add_mul]
  omega
end
/-! ### applicable -/
def Tst (fuel : Nat) (f : Int → Option T) (g : Gl) : Prop := qbU fuel ⟨g.op, g.n, yW f g.ts⟩ = some 1
theorem qoa : ∀ {env : En} {v : Int} {u : T}, zH env v = some u → ∃ q ∈ env, q.2 = u
 | q :: l, v, u, h => by
  rw [zH] at h
  split at h
  · exact ⟨q, List.mem_cons_self .., Option.some.inj h⟩
  · obtain ⟨p, hp, e⟩ := qoa h
    exact ⟨p, List.mem_cons_of_mem _ hp, e⟩
theorem qii (k : Bool → Option Bool) (env : En) (fuel : Nat) : ∀ G : List Gl, q9 k env fuel G false = k false
 | [] => by rw [q9]
 | g :: G => by rw [q9, cond_false]
theorem qoc {env : En} (hE : EnW 61 env) (fuel : Nat) (hf : 50000 < fuel) : ∀ G : List Gl, (∀ g ∈ G, wtL g.ts ≤ 150) → (∀ v ∈ zV G, zH env v ≠ none) → yR (q9 (fun ok_9 => some ok_9) env fuel G true) (z6 (∀ g ∈ G, Tst fuel (zH env) g))
 | [], _, _ => by
  rw [q9]
  exact ⟨true, rfl, .t fun g hg => by cases hg⟩
 | g :: G, hw, hk => by
  have hwg := hw g (List.mem_cons_self ..)
  have hkg : ∀ v ∈ zm g.ts, zH env v ≠ none := fun v hv => hk v (by rw [zV]; exact List.mem_append_left _ hv)
  have hi := qnr (W := 61) (by omega) (f := zH env) (fun v u h => by
   obtain ⟨q, hq, rfl⟩ := qoa h
   exact hE q hq) g.ts hkg
  obtain ⟨r, hr⟩ := qrH fuel hf ⟨g.op, g.n, yW (zH env) g.ts⟩ (by
   show wtL (yW (zH env) g.ts) ≤ 10000
   have := Nat.mul_le_mul_right 61 hwg
   omega)
  rw [q9, cond_true, qcn, qog env fuel g.ts (by omega) (by omega) hkg, Option.bind_some, Option.bind_some, hr, Option.bind_some]
  by_cases h1 : r = 1
  · rw [uT h1]
    refine (qoc hE fuel hf G (fun g h => hw g (List.mem_cons_of_mem _ h)) fun v hv => hk v (by rw [zV]; exact List.mem_append_right _ hv)).mono fun b hb => ?_
    refine ⟨fun e g' hg' => ?_, fun h => hb.2 fun g' hg' => h g' (List.mem_cons_of_mem _ hg')⟩
    rcases List.mem_cons.1 hg' with rfl | hg'
    · unfold Tst
      rw [hr, h1]
    · exact hb.1 e g' hg'
  · rw [uF h1, qii]
    refine ⟨false, rfl, .f fun h => h1 ?_⟩
    have := h g (List.mem_cons_self ..)
    unfold Tst at this
    rw [hr] at this
    exact Option.some.inj this
theorem qiT : ∀ {ps : List (Int × T)} {f g : Int → Option T}, rn f ps = some g → (∀ v, f v ≠ none → g v = f v) ∧ ∀ p ∈ ps, g p.1 ≠ none
 | [], f, g, h => by
  rw [rn] at h
  obtain rfl := Option.some.inj h
  exact ⟨fun _ _ => rfl, fun p hp => by cases hp⟩
 | (v, u) :: ps, f, g, h => by
  cases hv : f v with
  | none =>
   rw [qgA hv] at h
   obtain ⟨h1, h2⟩ := qiT h
   have hu : upd f v u v = some u := if_pos rfl
   refine ⟨fun x hx => ?_, fun p hp => ?_⟩
   · have hne : x ≠ v := fun e => hx (e ▸ hv)
     have hx' : upd f v u x = f x := if_neg hne
     rw [h1 x (by rw [hx']; exact hx), hx']
   · rcases List.mem_cons.1 hp with rfl | hp
     · rw [h1 v (by rw [hu]; simp), hu]
       simp
     · exact h2 p hp
  | some w =>
   rw [qhS hv] at h
   split at h
   · obtain ⟨h1, h2⟩ := qiT h
     refine ⟨h1, fun p hp => ?_⟩
     rcases List.mem_cons.1 hp with rfl | hp
     · rw [h1 v (by rw [hv]; simp), hv]
       simp
     · exact h2 p hp
   · cases h
theorem qm3 : ∀ {ps : List (Int × T)} {f g : Int → Option T} {v : Int} {u : T}, rn f ps = some g → g v = some u → f v = some u ∨ ∃ p ∈ ps, p.2 = u
 | [], f, g, v, u, h, hu => by
  rw [rn] at h
  obtain rfl := Option.some.inj h
  exact .inl hu
 | (x, w) :: ps, f, g, v, u, h, hu => by
  cases hv : f x with
  | none =>
   rw [qgA hv] at h
   rcases qm3 h hu with h | ⟨p, hp, e⟩
   · unfold upd at h
     split at h
     · exact .inr ⟨_, List.mem_cons_self .., Option.some.inj h⟩
     · exact .inl h
   · exact .inr ⟨p, List.mem_cons_of_mem _ hp, e⟩
  | some y =>
   rw [qhS hv] at h
   split at h
   · rcases qm3 h hu with h | ⟨p, hp, e⟩
     · exact .inl h
     · exact .inr ⟨p, List.mem_cons_of_mem _ hp, e⟩
   · cases h
theorem qmj {o : List Int} {l : List T} (h : l.length = o.length) {v : Int} (hv : v ∈ o) : ∃ p ∈ o.zip l, p.1 = v := by
 obtain ⟨i, hi, e⟩ := List.mem_iff_getElem.1 hv
 exact ⟨(o[i], l[i]'(by omega)), List.mem_iff_getElem.2 ⟨i, by rw [List.length_zip]; omega, by simp⟩, e⟩
theorem qsX {o : List Int} {l : List T} {p : Int × T} (hp : p ∈ o.zip l) : p.2 ∈ l := (List.of_mem_zip hp).2
theorem qrL : zH ([] : En) = fun _ => none := rfl
def Appl (fuel : Nat) (r : Ru) (l : List At) : Prop := ∃ f, mtc (fun _ => none) (occH r) (vH (r.K ++ r.R) l) = some f ∧ ∀ g ∈ r.G, Tst fuel f g
theorem qpP (fuel : Nat) (hf : 100000 < fuel) (r : qG) (hB : Bd 10000 (toR r)) (l : List At) (hl : ∀ a ∈ l, wtL a.ts ≤ 61) (hg : ∀ g ∈ r.f3_Guard, wtL g.ts ≤ 150) (hk : ∀ v ∈ zV r.f3_Guard, v ∈ occH (toR r)) : yR (qbQ fuel r l) (z6 (Appl fuel (toR r) l)) := by
 have h1 := hB.a
 have h2 := hB.b
 simp only [toR] at h1 h2
 have hw := qr6 r.f1_Keep r.f2_Remove
 have ho := qgw (r.f1_Keep ++ r.f2_Remove)
 have hocc : occH (toR r) = zA (r.f1_Keep ++ r.f2_Remove) := (qkt _ _).symm
 unfold qbQ
 rw [qpM r (hB.mono (by omega)), Option.bind_some]
 by_cases hlen : (r.f1_Keep ++ r.f2_Remove).length = l.length
 · rw [show (((r.f1_Keep ++ r.f2_Remove).length : Int) == (l.length : Int)) = true from uT (by omega)]
   obtain ⟨env, ok, e, h⟩ := qoY (W := 61) (by omega) fuel (fun env_5 ok_6 => (q9 (fun ok_9 => some (ok_9)) env_5 fuel r.f3_Guard ok_6)) (r.f1_Keep ++ r.f2_Remove) (by omega) (by omega) (r.f1_Keep ++ r.f2_Remove) l 0 [] rfl hlen (fun p hp => qmA hp) hl (fun q hq => by cases hq) (by simp; omega)
   rw [e]
   rw [qrL, ← hocc] at h
   rcases h with ⟨rfl, hx⟩ | ⟨rfl, hx, hE⟩
   · rw [qii]
     refine ⟨false, rfl, .f ?_⟩
     rintro ⟨f, hf, _⟩
     exact absurd (hx.symm.trans hf) (by simp)
   · have hcov : ∀ v ∈ occH (toR r), zH env v ≠ none := fun v hv => by
      unfold mtc at hx
      cases hvh : vH (r.f1_Keep ++ r.f2_Remove) l with
      | none =>
       rw [hvh] at hx
       cases hx
      | some vals =>
       rw [hvh, Option.bind_some] at hx
       obtain ⟨p, hp, rfl⟩ := qmj (l := vals) (by rw [qqb _ _ _ hvh, hocc]) hv
       exact (qiT hx).2 p hp
     refine (qoc hE fuel (by omega) r.f3_Guard hg fun v hv => hcov v (hk v hv)).mono fun b hb => ?_
     refine ⟨fun e => ⟨zH env, hx, hb.1 e⟩, ?_⟩
     rintro ⟨f, hf, ht⟩
     obtain rfl := Option.some.inj (hx.symm.trans hf)
     exact hb.2 ht
 · rw [show (((r.f1_Keep ++ r.f2_Remove).length : Int) == (l.length : Int)) = false from uF (by omega)]
   have e : q8 (fun env_5 ok_6 => (q9 (fun ok_9 => some (ok_9)) env_5 fuel r.f3_Guard ok_6)) fuel (r.f1_Keep ++ r.f2_Remove) l [] false 0 = some false := by
    cases l with
    | nil => rw [q8, qii]
    | cons a l => rw [q8, cond_false, qii]
   refine ⟨false, e, .f ?_⟩
   rintro ⟨f, hf, _⟩
   have hd : vH ((toR r).K ++ (toR r).R) l = none := qqW _ _ hlen
   rw [hd] at hf
   cases hf
theorem qpA {a b : T} : yB a b = true ↔ yB b a = true := by
 unfold yB
 rw [beq_iff_eq, beq_iff_eq, qkj, qkj]
 exact eq_comm
def OkT (g : Int → Option T) (t : Int × Int) : Prop := ∃ a b, g t.1 = some a ∧ g t.2 = some b ∧ yB b a = true
theorem qmR {n0 : Int} : ∀ (l : List Int) (vals : List T) (s : List Int) (n : Int) (f g : Int → Option T), (∀ v ∈ l, v < n0) → n0 ≤ n → vals.length = l.length → (∀ v, v < n0 → g v = f v) → (∀ v, v < n0 → (v ∈ s ↔ f v ≠ none)) → (∀ x, n ≤ x → g x = none) →
 ∃ g', rn g ((z5 s n l).1.zip vals) = some g' ∧ ((rn f (l.zip vals) = none ∧ ∃ t ∈ (z5 s n l).2, ¬ OkT g' t) ∨ ∃ f', rn f (l.zip vals) = some f' ∧ (∀ v, v < n0 → g' v = f' v) ∧ ∀ t ∈ (z5 s n l).2, OkT g' t)
 | [], vals, s, n, f, g, _, _, _, hfg, _, _ => ⟨g, by rw [z5]; simp [rn], .inr ⟨f, by simp [rn], hfg, fun t ht => by rw [z5] at ht; cases ht⟩⟩
 | v :: l, [], s, n, f, g, _, _, h, _, _, _ => by cases h
 | v :: l, u :: vals, s, n, f, g, hl, hn, hlen, hfg, hs, hg => by
  have hv := hl v (List.mem_cons_self ..)
  have hl' : ∀ w ∈ l, w < n0 := fun w hw => hl w (List.mem_cons_of_mem _ hw)
  have hlen' : vals.length = l.length := by simpa using hlen
  by_cases hvs : v ∈ s
  · obtain ⟨w, hw⟩ := Option.ne_none_iff_exists'.1 ((hs v hv).1 hvs)
    have hgv : g v = some w := (hfg v hv).trans hw
    have hgn : g n = none := hg n (Int.le_refl _)
    have hu : ∀ x, x ≠ n → upd g n u x = g x := fun x hx => if_neg hx
    obtain ⟨g', e, h⟩ := qmR l vals s (n + 1) f (upd g n u) hl' (by omega) hlen' (fun x hx => by rw [hu x (by omega), hfg x hx]) hs (fun x hx => by rw [hu x (by omega), hg x (by omega)])
    have hcov := (qiT e).1
    have h1 : g' n = some u := by
     have : upd g n u n = some u := if_pos rfl
     rw [hcov n (by rw [this]; simp), this]
    have h2 : g' v = some w := by
     have hx : upd g n u v = some w := (hu v (by omega)).trans hgv
     rw [hcov v (by rw [hx]; simp), hx]
    refine ⟨g', ?_, ?_⟩
    · rw [qjo hvs]
      show rn g ((n, u) :: _) = _
      rw [qgA hgn]
      exact e
    · rw [qjo hvs]
      show (rn f ((v, u) :: l.zip vals) = none ∧ _) ∨ ∃ f', rn f ((v, u) :: l.zip vals) = some f' ∧ _
      rw [qhS hw]
      by_cases hsame : yB w u = true
      · rw [if_pos hsame]
        rcases h with ⟨h3, t, ht, hno⟩ | ⟨f', h3, h4, h5⟩
        · exact .inl ⟨h3, t, List.mem_cons_of_mem _ ht, hno⟩
        · refine .inr ⟨f', h3, h4, fun t ht => ?_⟩
          rcases List.mem_cons.1 ht with rfl | ht
          · exact ⟨u, w, h1, h2, hsame⟩
          · exact h5 t ht
      · rw [if_neg hsame]
        refine .inl ⟨rfl, (n, v), List.mem_cons_self .., ?_⟩
        rintro ⟨a, b, ha, hb, hab⟩
        obtain rfl := Option.some.inj (h1.symm.trans ha)
        obtain rfl := Option.some.inj (h2.symm.trans hb)
        exact hsame hab
  · have hw : f v = none := by
     cases hc : f v with
     | none => rfl
     | some a => exact absurd ((hs v hv).2 (by rw [hc]; simp)) hvs
    have hgv : g v = none := (hfg v hv).trans hw
    obtain ⟨g', e, h⟩ := qmR l vals (s ++ [v]) n (upd f v u) (upd g v u) hl' hn hlen' (fun x hx => by
     unfold upd
     split
     · rfl
     · exact hfg x hx) (fun x hx => by
     unfold upd
     rw [List.mem_append, List.mem_singleton]
     split
     · rename_i hxv
       simp [hxv]
     · rename_i hxv
       simp only [hxv, or_false]
       exact hs x hx) (fun x hx => by
     unfold upd
     rw [if_neg (by omega)]
     exact hg x hx)
    refine ⟨g', ?_, ?_⟩
    · rw [qhZ hvs]
      show rn g ((v, u) :: _) = _
      rw [qgA hgv]
      exact e
    · rw [qhZ hvs]
      show (rn f ((v, u) :: l.zip vals) = none ∧ _) ∨ ∃ f', rn f ((v, u) :: l.zip vals) = some f' ∧ _
      rw [qgA hw]
      exact h
theorem qqE {ρ : Int → Int} {S : List Int} (hi : ∀ a ∈ S, ∀ b ∈ S, ρ a = ρ b → a = b) : ∀ (o : List Int) (l : List T) (f g : Int → Option T), (∀ v ∈ o, v ∈ S) → (∀ v ∈ S, g (ρ v) = f v) → l.length = o.length →
 ∀ f', rn f (o.zip l) = some f' → ∃ g', rn g ((o.map ρ).zip l) = some g' ∧ ∀ v ∈ S, g' (ρ v) = f' v
 | [], l, f, g, _, h, _, f', e => by
  simp only [List.zip_nil_left, rn, Option.some.injEq] at e
  subst e
  exact ⟨g, by simp [rn], h⟩
 | v :: o, [], f, g, _, _, h, f', e => by cases h
 | v :: o, u :: l, f, g, ho, h, hl, f', e => by
  have hv := ho v (List.mem_cons_self ..)
  have ho' : ∀ w ∈ o, w ∈ S := fun w hw => ho w (List.mem_cons_of_mem _ hw)
  have hl' : l.length = o.length := by simpa using hl
  rw [List.zip_cons_cons] at e
  rw [List.map_cons, List.zip_cons_cons]
  cases hf : f v with
  | none =>
   rw [qgA hf] at e
   rw [qgA ((h v hv).trans hf)]
   refine qqE hi o l (upd f v u) (upd g (ρ v) u) ho' (fun w hw => ?_) hl' f' e
   unfold upd
   by_cases hwv : w = v
   · rw [if_pos hwv, if_pos (by rw [hwv])]
   · rw [if_neg hwv, if_neg fun k => hwv (hi w hw v hv k)]
     exact h w hw
  | some w =>
   rw [qhS hf] at e
   rw [qhS ((h v hv).trans hf)]
   split at e
   · rename_i hs
     rw [if_pos hs]
     exact qqE hi o l f g ho' h hl' f' e
   · cases e
/-! ### heads -/
theorem qp2 : ∀ (K R ts : List At) (a b : List Int), vH (yD K a ++ yD R b) ts = vH (K ++ R) ts
 | [], R, ts, a, b => by
  rw [yD, List.nil_append, List.nil_append, qsd]
 | p :: K, R, [], a, b => by
  rw [yD, List.cons_append, List.cons_append, vH, vH]
 | p :: K, R, t :: ts, a, b => by
  rw [yD, List.cons_append, List.cons_append, vH, vH, qnR, qp2 K R ts]
theorem qti (ρ : Int → Int) (K R ts : List At) : vH (zaB ρ K ++ zaB ρ R) ts = vH (K ++ R) ts := by rw [qfO, qfO, qp2]
/-! ### what stands there is right -/
def RtT (d w : Nat) (u : T) : Prop := zQ u = true ∧ yv u ≤ d ∧ wt u ≤ w
theorem RtT.more {d w d' w' : Nat} {u : T} (h : RtT d w u) (hd : d ≤ d') (hw : w ≤ w') : RtT d' w' u := ⟨h.1, by have := h.2.1; omega, by have := h.2.2; omega⟩
mutual
theorem qrq : ∀ (p t : T) (l : List T), vT p t = some l → zQ t = true → ∀ u ∈ l, RtT (yv t) (wt t) u
 | .mk k i s ar, t, l, h, hf, u, hu => by
  rcases y4 k with h1 | h2 | ⟨h1, h2⟩
  · subst h1
    rw [qmL rfl] at h
    obtain rfl := Option.some.inj h
    obtain rfl := List.mem_singleton.1 hu
    exact ⟨hf, Nat.le_refl _, Nat.le_refl _⟩
  · subst h2
    rw [qmt rfl] at h
    split at h
    · rename_i hk
      rw [qkz hk.1, Bool.and_eq_true] at hf
      have hd := qh6 t
      have hu' : t.used = t.ar := if_pos hk.1
      rw [hu'] at hd
      exact (qlm ar t.ar l h hf.2 u hu).more (by omega) (by rw [qeT]; omega)
    · cases h
  · rw [qqR (p := .mk k i s ar) h1 h2] at h
    split at h
    · obtain rfl := Option.some.inj h
      cases hu
    · cases h
theorem qlm : ∀ (ps ts l : List T), vL ps ts = some l → zP ts = true → ∀ u ∈ l, RtT (zy ts) (wtL ts) u
 | [], [], l, h, _, u, hu => by
  rw [vL] at h
  obtain rfl := Option.some.inj h
  cases hu
 | p :: ps, t :: ts, l, h, hf, u, hu => by
  rw [zP, Bool.and_eq_true] at hf
  rw [vL] at h
  rw [zy, wtL]
  cases ha : vT p t with
  | none =>
   rw [ha] at h
   cases h
  | some a =>
   cases hb : vL ps ts with
   | none =>
    rw [ha, hb] at h
    cases h
   | some b =>
    rw [ha, hb] at h
    obtain rfl := Option.some.inj h
    rcases List.mem_append.1 hu with hu | hu
    · exact (qrq p t a ha hf.1 u hu).more (by omega) (by omega)
    · exact (qlm ps ts b hb hf.2 u hu).more (by omega) (by omega)
 | [], _ :: _, l, h, _, _, _ => by
  rw [vL] at h
  cases h
 | _ :: _, [], l, h, _, _, _ => by
  rw [vL] at h
  cases h
end
theorem qoC {d w : Nat} : ∀ (ps ts : List At) (l : List T), vH ps ts = some l → (∀ a ∈ ts, zP a.ts = true ∧ zy a.ts ≤ d ∧ wtL a.ts ≤ w) → ∀ u ∈ l, RtT d w u
 | [], [], l, h, _, u, hu => by
  rw [vH] at h
  obtain rfl := Option.some.inj h
  cases hu
 | p :: ps, t :: ts, l, h, hf, u, hu => by
  rw [vH] at h
  split at h
  · cases ha : vL p.ts t.ts with
    | none =>
     rw [ha] at h
     cases h
    | some a =>
     cases hb : vH ps ts with
     | none =>
      rw [ha, hb] at h
      cases h
     | some b =>
      rw [ha, hb] at h
      obtain rfl := Option.some.inj h
      obtain ⟨h1, h2, h3⟩ := hf t (List.mem_cons_self ..)
      rcases List.mem_append.1 hu with hu | hu
      · exact (qlm _ _ a ha h1 u hu).more h2 h3
      · exact qoC ps ts b hb (fun a h => hf a (List.mem_cons_of_mem _ h)) u hu
  · cases h
 | [], _ :: _, l, h, _, _, _ => by
  rw [vH] at h
  cases h
 | _ :: _, [], l, h, _, _, _ => by
  rw [vH] at h
  cases h
theorem qqB {a b : T} (ha : RtT 20 61 a) (hb : RtT 20 61 b) : zF ⟨5, ⟨#[]⟩, [a, b]⟩ = true := by
 have h1 := qkG a
 have h2 := qkG b
 obtain ⟨a1, a2, a3⟩ := ha
 obtain ⟨b1, b2, b3⟩ := hb
 unfold zF
 rw [if_neg (by show (5 : Int) ≠ 0; omega)]
 simp only [Bool.and_eq_true, decide_eq_true_eq]
 refine ⟨⟨by rw [Lib.toList_data], rfl⟩, ?_⟩
 unfold yd
 have h3 : zD [a, b] ≤ 200 := by
  rw [zD, zD, zD]
  omega
 have h4 : zy [a, b] ≤ 20 := by
  rw [zy, zy, zy]
  omega
 have h5 : zP [a, b] = true := by rw [zP, zP, zP, a1, b1]; rfl
 rw [h5, decide_eq_true h3, decide_eq_true h4]
 rfl
theorem qsi (fuel : Nat) (hf : 50000 < fuel) {g : Int → Option T} {x y : Int} {a b : T} (hx : g x = some a) (hy : g y = some b) (ha : RtT 20 61 a) (hb : RtT 20 61 b) : Tst fuel g (tst (x, y)) ↔ yB a b = true := by
 have hi : yW g [.mk 1 x ⟨#[]⟩ [], .mk 1 y ⟨#[]⟩ []] = [a, b] := by
  rw [yW, yW, yW, qig (t := .mk 1 x ⟨#[]⟩ []) rfl hx, qig (t := .mk 1 y ⟨#[]⟩ []) rfl hy]
 obtain ⟨r, e, h⟩ := qp6 fuel hf ⟨#[]⟩ a b (by
  have := ha.2.2
  have := hb.2.2
  simp only [wtL]
  omega)
 unfold Tst tst
 dsimp only
 rw [hi, e, Option.some.injEq, h]
 exact ⟨fun h => h.2, fun h => ⟨qqB ha hb, h⟩⟩
theorem qlu {g : Gl} {v : Int} : ∀ {G : List Gl}, g ∈ G → v ∈ zm g.ts → v ∈ zV G
 | x :: G, h, hv => by
  rw [zV]
  rcases List.mem_cons.1 h with rfl | h
  · exact List.mem_append_left _ hv
  · exact List.mem_append_right _ (qlu h hv)
theorem qoz {r : Ru} (h : zaL r ∧ (zS r).G.length ≤ 12) : za4 r = Nb (zS r) := if_pos h
theorem qqI {r : Ru} (h : ¬ (zaL r ∧ (zS r).G.length ≤ 12)) : za4 r = r := if_neg h
theorem qri (fuel : Nat) (hf : 50000 < fuel) (r : Ru) (l : List At) (hl : ∀ a ∈ l, zP a.ts = true ∧ zy a.ts ≤ 20 ∧ wtL a.ts ≤ 61) (hk : ∀ v ∈ zV r.G, v ∈ occH r) : Appl fuel (za4 r) l ↔ Appl fuel r l := by
 by_cases hn : zaL r ∧ (zS r).G.length ≤ 12
 rotate_left
 · rw [qqI hn]
 rw [qoz hn]
 have hNb := hn.1
 have hO : occH (zS r) = (z5 [] r.v (occH r)).1 := by
  show occH (setH r (z5 [] r.v (occH r)).1) = _
  exact qkE (qj6 _ _ _)
 have hinj : ∀ a ∈ yt (zS r), ∀ b ∈ yt (zS r), plc (vsU (zS r)) a = plc (vsU (zS r)) b → a = b := fun a ha b hb h => qqL (qno.2 ha) (qno.2 hb) h
 have hNbeq : Nb (zS r) = wv ⟨(zS r).n, zaB (plc (vsU (zS r))) (zS r).K, zaB (plc (vsU (zS r))) (zS r).R, za2 (plc (vsU (zS r))) (zS r).G, za2 (plc (vsU (zS r))) (zS r).B, (zS r).v⟩ ((vsU (zS r)).length : Int) := by
  unfold Nb
  rw [qoK]
 have hocc2 : occH (Nb (zS r)) = (z5 [] r.v (occH r)).1.map (plc (vsU (zS r))) := by
  rw [← hO, hNbeq]
  show zA (zaB _ _) ++ zA (zaB _ _) = (zA (zS r).K ++ zA (zS r).R).map _
  rw [qfO, qfO, qhx _ _ (by simp), qhx _ _ (by simp), List.map_append]
 have hvH : vH ((Nb (zS r)).K ++ (Nb (zS r)).R) l = vH (r.K ++ r.R) l := by
  rw [hNbeq]
  show vH (zaB _ (zS r).K ++ zaB _ (zS r).R) l = _
  rw [qti]
  exact qp2 r.K r.R l _ _
 have hG : (Nb (zS r)).G = za2 (plc (vsU (zS r))) ((z5 [] r.v (occH r)).2.map tst ++ r.G) := by
  rw [hNbeq]
  rfl
 unfold Appl
 rw [hocc2, hvH, hG]
 cases hv : vH (r.K ++ r.R) l with
 | none =>
  constructor
  · rintro ⟨f, h, _⟩
    cases h
  · rintro ⟨f, h, _⟩
    cases h
 | some vals =>
  unfold mtc
  rw [Option.bind_some, Option.bind_some]
  have hlen : vals.length = (occH r).length := by
   rw [qqb _ _ _ hv, qkt]
   rfl
  have hright := qoC _ _ _ hv hl
  obtain ⟨g1, e1, hcase⟩ := qmR (n0 := r.v) (occH r) vals [] r.v (fun _ => none) (fun _ => none) (fun v h => (hNb.lt (qjM h)).2) (Int.le_refl _) hlen (fun _ _ => rfl) (fun v _ => by simp) (fun _ _ => rfl)
  have hlen1 : vals.length = (z5 [] r.v (occH r)).1.length := by rw [qj6, hlen]
  obtain ⟨g2, e2, hg2⟩ := qqE hinj (z5 [] r.v (occH r)).1 vals (fun _ => none) (fun _ => none) (fun v h => qjM (by rw [hO]; exact h)) (fun _ _ => rfl) hlen1 g1 e1
  have hcov : ∀ v ∈ (z5 [] r.v (occH r)).1, g1 v ≠ none := fun v h => by
   obtain ⟨p, hp, rfl⟩ := qmj hlen1 h
   exact (qiT e1).2 p hp
  have hval : ∀ v u, g1 v = some u → RtT 20 61 u := fun v u h => by
   rcases qm3 e1 h with h | ⟨p, hp, rfl⟩
   · cases h
   · exact hright _ (qsX hp)
  have hTst : ∀ g : Gl, (∀ v ∈ zm g.ts, v ∈ (z5 [] r.v (occH r)).1) → (Tst fuel g2 ⟨g.op, g.n, zaR (plc (vsU (zS r))) g.ts⟩ ↔ Tst fuel g1 g) := fun g h => by
   unfold Tst
   dsimp only
   rw [qjQ g.ts fun v hv => ⟨hg2 v (qjM (by rw [hO]; exact h v hv)), hcov v (h v hv)⟩]
  have hin : ∀ t ∈ (z5 [] r.v (occH r)).2, t.1 ∈ (z5 [] r.v (occH r)).1 ∧ t.2 ∈ (z5 [] r.v (occH r)).1 := fun t ht => by
   obtain ⟨h1, _, h3⟩ := qiU _ _ _ t ht
   exact ⟨qlx _ _ _ _ h1.1 h1.2, h3.resolve_left fun h => by cases h⟩
  have hOk : ∀ t ∈ (z5 [] r.v (occH r)).2, (Tst fuel g1 (tst t) ↔ OkT g1 t) := fun t ht => by
   obtain ⟨h1, h2⟩ := hin t ht
   obtain ⟨a, ha⟩ := Option.ne_none_iff_exists'.1 (hcov _ h1)
   obtain ⟨b, hb⟩ := Option.ne_none_iff_exists'.1 (hcov _ h2)
   rw [show tst t = tst (t.1, t.2) from rfl, qsi fuel hf ha hb (hval _ _ ha) (hval _ _ hb), qpA]
   refine ⟨fun h => ⟨a, b, ha, hb, h⟩, ?_⟩
   rintro ⟨a', b', ha', hb', h⟩
   obtain rfl := Option.some.inj (ha.symm.trans ha')
   obtain rfl := Option.some.inj (hb.symm.trans hb')
   exact h
  have hocct : ∀ t : Int × Int, zm (tst t).ts = [t.1, t.2] := fun t => by
   show zm [.mk 1 t.1 ⟨#[]⟩ [], .mk 1 t.2 ⟨#[]⟩ []] = _
   rw [zm, zm, zm, qgH, qgH]
   rfl
  have hall : (∀ g ∈ za2 (plc (vsU (zS r))) ((z5 [] r.v (occH r)).2.map tst ++ r.G), Tst fuel g2 g) ↔ (∀ t ∈ (z5 [] r.v (occH r)).2, OkT g1 t) ∧ ∀ g ∈ r.G, Tst fuel g1 g := by
   have hkG : ∀ g ∈ r.G, ∀ v ∈ zm g.ts, v ∈ (z5 [] r.v (occH r)).1 := fun g hg v hv => qhW _ _ _ _ (hk v (qlu hg hv)) (by simp)
   unfold za2
   constructor
   · intro h
     refine ⟨fun t ht => ?_, fun g hg => ?_⟩
     · have := h _ (List.mem_map_of_mem (List.mem_append_left _ (List.mem_map_of_mem ht)))
       obtain ⟨h1, h2⟩ := hin t ht
       rw [hTst (tst t) fun v hv => by
        rw [hocct] at hv
        simp only [List.mem_cons, List.not_mem_nil, or_false] at hv
        rcases hv with rfl | rfl
        · exact h1
        · exact h2] at this
       exact (hOk t ht).1 this
     · have := h _ (List.mem_map_of_mem (List.mem_append_right _ hg))
       rwa [hTst g (hkG g hg)] at this
   · rintro ⟨h1, h2⟩ g hg
     obtain ⟨g0, hg0, rfl⟩ := List.mem_map.1 hg
     rcases List.mem_append.1 hg0 with hg0 | hg0
     · obtain ⟨t, ht, rfl⟩ := List.mem_map.1 hg0
       obtain ⟨h3, h4⟩ := hin t ht
       rw [hTst (tst t) fun v hv => by
        rw [hocct] at hv
        simp only [List.mem_cons, List.not_mem_nil, or_false] at hv
        rcases hv with rfl | rfl
        · exact h3
        · exact h4]
       exact (hOk t ht).2 (h1 t ht)
     · rw [hTst g0 (hkG g0 hg0)]
       exact h2 g0 hg0
  have hlhs : (∃ f, rn (fun _ => none) (((z5 [] r.v (occH r)).1.map (plc (vsU (zS r)))).zip vals) = some f ∧ ∀ g ∈ za2 (plc (vsU (zS r))) ((z5 [] r.v (occH r)).2.map tst ++ r.G), Tst fuel f g) ↔ (∀ t ∈ (z5 [] r.v (occH r)).2, OkT g1 t) ∧ ∀ g ∈ r.G, Tst fuel g1 g := by
   rw [← hall]
   constructor
   · rintro ⟨f, h1, h2⟩
     obtain rfl := Option.some.inj (e2.symm.trans h1)
     exact h2
   · exact fun h => ⟨g2, e2, h⟩
  rw [hlhs]
  rcases hcase with ⟨h1, t, ht, hno⟩ | ⟨f', h1, h2, h3⟩
  · exact ⟨fun h => absurd (h.1 t ht) hno, fun ⟨f, h, _⟩ => absurd (h1.symm.trans h) (by simp)⟩
  · have hff : ∀ g ∈ r.G, Tst fuel g1 g ↔ Tst fuel f' g := fun g hg => by
     unfold Tst
     have hkv : ∀ v ∈ zm g.ts, f' v = g1 v ∧ g1 v ≠ none := fun v hv => by
      have h4 := hk v (qlu hg hv)
      exact ⟨(h2 v (hNb.lt (qjM h4)).2).symm, hcov v (qhW _ _ _ _ h4 (by simp))⟩
     have := qjQ (ρ := fun v => v) (f := g1) (g := f') g.ts hkv
     rw [qm8] at this
     rw [this]
    constructor
    · rintro ⟨_, h⟩
      exact ⟨f', h1, fun g hg => (hff g hg).1 (h g hg)⟩
    · rintro ⟨f, h, hgs⟩
      obtain rfl := Option.some.inj (h1.symm.trans h)
      exact ⟨h3, fun g hg => (hff g hg).2 (hgs g hg)⟩
def prG (g : Gl) : Int × Int := match g.ts with
 | [a, b] => (a.i, b.i)
 | _ => (0, 0)
def jOk (g : Gl) (G B : List Gl) (l : List Int) : Prop := g.op = 5 ∧ zF g = true ∧ (∃ a b, g.ts = [a, b] ∧ a.k = 1 ∧ b.k = 1) ∧ (prG g).1 ≠ (prG g).2 ∧ l.count (prG g).1 = 1 ∧ (prG g).2 ∈ l ∧ (prG g).1 ∉ zV G ∧ (prG g).1 ∉ zV B
def JO (r : Ru) : Prop := match r.G with
 | [] => False
 | g :: G => jOk g G r.B (occH r)
/-! ### counts -/
def zbr (r : Ru) (p : Int × Int × Bool) : Prop := z6 (JO r) p.2.2 ∧ (p.2.2 = true → ∃ g G, r.G = g :: G ∧ p.1 = (prG g).1 ∧ p.2.1 = (prG g).2)
theorem zbr.f {r : Ru} {a b : Int} (h : ¬ JO r) : zbr r (a, b, false) := ⟨.f h, fun e => by cases e⟩
/-! ### one step -/
def stepR (x y : Int) (r : Ru) : Ru := { setH r (sub1 x y (occH r)) with G := r.G.tail }
theorem Bd.step {m : Nat} {r : Ru} (h : Bd m r) (x y : Int) : Bd m (stepR x y r) := by
 have h3 := h.c
 unfold stepR setH
 refine ⟨by rw [qkr]; exact h.a, by rw [qkr]; exact h.b, ?_, h.d⟩
 dsimp only
 cases hG : r.G with
 | nil => rw [List.tail_nil]; exact Nat.zero_le _
 | cons g G =>
  rw [hG, wG] at h3
  rw [List.tail_cons]
  omega
/-! ### joining -/
structure Eh (a b : Ru) : Prop where
 n : a.n = b.n
 K : zC a.K = zC b.K
 R : zC a.R = zC b.R
 G : a.G = b.G
 B : a.B = b.B
 v : a.v = b.v
theorem Eh.occ {a b : Ru} (h : Eh a b) : occH a = occH b := by
 unfold occH
 rw [← qe2 a.K, ← qe2 a.R, h.K, h.R, qe2, qe2]
theorem zaw : qaN 500000 = some true := by
 kernel_rfl
/-! ### weights -/
def NmA (l : List At) : Prop := ∀ a ∈ l, a.n.size ≤ 9223372036854775807
def NmG (l : List Gl) : Prop := ∀ a ∈ l, a.n.size ≤ 9223372036854775807
theorem qql (m : Int) (s : Nat) (h1 : 0 ≤ m) (h2 : m ≤ 1000) (hs : s ≤ 9223372036854775807) : wr ((wr (m - 1)) - (wr (Int.tdiv (s : Int) 8))) = m - 1 - ((s / 8 : Nat) : Int) := by
 have e : Int.tdiv (s : Int) 8 = ((s / 8 : Nat) : Int) := by
  rw [Int.tdiv_eq_ediv_of_nonneg (by omega)]
  rfl
 rw [e, qh2 (n := m - 1) (by omega), qh2 (n := ((s / 8 : Nat) : Int)) (by omega), qh2 (by omega)]
theorem qk0 (ts : List T) (m : Int) (h1 : -9223372036854775808 ≤ m) (h2 : m ≤ 1000) : qj3 ts m 64 = some (zr 64 ts m) := by
 rw [qj3, if_pos ⟨⟨h1, by omega⟩, by omega, by omega⟩]
 rfl
theorem qto (k : Int → Option Bool) : ∀ (l : List At) (m : Int), m ≤ 1000 → NmA l → ∃ r, qaH k l m = k r ∧ (0 ≤ r → (wA l : Int) + r ≤ m)
 | [], m, _, _ => ⟨m, by rw [qaH], fun _ => by simp [wA]⟩
 | a :: l, m, hm, hn => by
  rw [qaH]
  by_cases h : m ≥ 0
  · have hs := hn a (List.mem_cons_self ..)
    rw [decide_eq_true h, cond_true, qql m _ h hm hs, qk0 _ _ (by omega) (by omega), Option.bind_some]
    have h1 := qgQ 64 a.ts (m - 1 - ((a.n.size / 8 : Nat) : Int))
    have h2 := qjG 64 a.ts (m - 1 - ((a.n.size / 8 : Nat) : Int))
    obtain ⟨r, e1, e2⟩ := qto k l (zr 64 a.ts (m - 1 - ((a.n.size / 8 : Nat) : Int))) (by omega) fun x hx => hn x (List.mem_cons_of_mem _ hx)
    refine ⟨r, e1, fun hr => ?_⟩
    have := e2 hr
    simp only [wA]
    omega
  · rw [decide_eq_false h, cond_false]
    exact ⟨m, rfl, fun hr => absurd hr h⟩
theorem qtb (k : Int → Option Bool) : ∀ (l : List Gl) (m : Int), m ≤ 1000 → NmG l → ∃ r, qaI k l m = k r ∧ (0 ≤ r → (wG l : Int) + r ≤ m)
 | [], m, _, _ => ⟨m, by rw [qaI], fun _ => by simp [wG]⟩
 | a :: l, m, hm, hn => by
  rw [qaI]
  by_cases h : m ≥ 0
  · have hs := hn a (List.mem_cons_self ..)
    rw [decide_eq_true h, cond_true, qql m _ h hm hs, qk0 _ _ (by omega) (by omega), Option.bind_some]
    have h1 := qgQ 64 a.ts (m - 1 - ((a.n.size / 8 : Nat) : Int))
    have h2 := qjG 64 a.ts (m - 1 - ((a.n.size / 8 : Nat) : Int))
    obtain ⟨r, e1, e2⟩ := qtb k l (zr 64 a.ts (m - 1 - ((a.n.size / 8 : Nat) : Int))) (by omega) fun x hx => hn x (List.mem_cons_of_mem _ hx)
    refine ⟨r, e1, fun hr => ?_⟩
    have := e2 hr
    simp only [wG]
    omega
  · rw [decide_eq_false h, cond_false]
    exact ⟨m, rfl, fun hr => absurd hr h⟩
theorem qko (l : List At) (m : Int) (hm : m ≤ 1000) (hn : NmA l) : yR (qbw l m) fun b => b = false → (wA l : Int) ≤ m := by
 unfold qbw
 obtain ⟨r, e1, e2⟩ := qto (fun m => some (decide (m < 0))) l m hm hn
 rw [e1]
 refine ⟨_, rfl, fun h => ?_⟩
 have := of_decide_eq_false h
 have := e2 (by omega)
 omega
theorem qms (l : List Gl) (m : Int) (hm : m ≤ 1000) (hn : NmG l) : yR (qbR l m) fun b => b = false → (wG l : Int) ≤ m := by
 unfold qbR
 obtain ⟨r, e1, e2⟩ := qtb (fun m => some (decide (m < 0))) l m hm hn
 rw [e1]
 refine ⟨_, rfl, fun h => ?_⟩
 have := of_decide_eq_false h
 have := e2 (by omega)
 omega
structure Nm (r : qG) : Prop where
 a : NmA r.f1_Keep
 b : NmA r.f2_Remove
 c : NmG r.f3_Guard
 d : NmG r.f4_Body
/-! ### names are strings of the machine -/
theorem qnj {p : Addr → Prop} {w : World} : ∀ {ds : List D} {cs : List Value}, zo p w ds cs → ∀ d ∈ ds, ∃ v, Rep p w d v
 | [], _, _, _, h => by cases h
 | x :: ds, cs, h, d, hd => by
  simp only [zo] at h
  obtain ⟨v, rest, _, h1, h2⟩ := h
  exact (List.mem_cons.1 hd).elim (fun e => e ▸ ⟨v, h1⟩) (qnj h2 d)
theorem qi6 {p : Addr → Prop} {w : World} {fs : List D} {v : Value} (h : Rep p w (.agg fs) v) (d : D) (hd : d ∈ fs) : ∃ v, Rep p w d v := by
 simp only [Rep] at h
 obtain ⟨cs, _, h, _⟩ := h
 exact qnj h d hd
theorem qpD {α : Type} {f : α → D} {p : Addr → Prop} {w : World} {l : List α} {v : Value} (h : Rep p w (.lst (l.map f)) v) (a : α) (ha : a ∈ l) : ∃ v, Rep p w (f a) v := by
 simp only [Rep] at h
 obtain ⟨A, c, xs, _, _, _, _, h, _⟩ := h
 exact qnj h _ (List.mem_map.2 ⟨a, ha, rfl⟩)
theorem qrT {p : Addr → Prop} {w : World} {s : ByteArray} {v : Value} (h : Rep p w (.str s) v) : s.size ≤ 9223372036854775807 := by
 simp only [Rep] at h
 exact h.2
theorem qp7 {p : Addr → Prop} {w : World} {l : List At} {v : Value} (h : Rep p w (.lst (l.map zl)) v) : NmA l := fun a ha => by
 obtain ⟨v, h⟩ := qpD h a ha
 obtain ⟨v, h⟩ := qi6 h (.str a.n) (by simp)
 exact qrT h
theorem qsb {p : Addr → Prop} {w : World} {l : List Gl} {v : Value} (h : Rep p w (.lst (l.map zk)) v) : NmG l := fun a ha => by
 obtain ⟨v, h⟩ := qpD h a ha
 obtain ⟨v, h⟩ := qi6 h (.str a.n) (by simp)
 exact qrT h
theorem qtA {p : Addr → Prop} {w : World} {r : qG} {v : Value} (h : Rep p w (qp r) v) : Nm r := by
 obtain ⟨_, h1⟩ := qi6 h (.lst (r.f1_Keep.map zl)) (by simp)
 obtain ⟨_, h2⟩ := qi6 h (.lst (r.f2_Remove.map zl)) (by simp)
 obtain ⟨_, h3⟩ := qi6 h (.lst (r.f3_Guard.map zk)) (by simp)
 obtain ⟨_, h4⟩ := qi6 h (.lst (r.f4_Body.map zk)) (by simp)
 exact ⟨qp7 h1, qp7 h2, qsb h3, qsb h4⟩
theorem z6.eq {p : Prop} {a b : Bool} (h : z6 p a) (k : z6 p b) : a = b := by
 unfold z6 at h k
 cases a <;> cases b <;> simp_all
theorem Bd.lin {r : Ru} (h : Bd 1000 r) : Bd 7000 (za4 r) := by
 unfold za4
 split
 · exact (h.pre.mono (by omega)).nb
 · exact h.mono (by omega)
theorem qrt (r : qG) (h : Nm r) : yR (qb9 [r] 60) fun b => b = false → Bd 60 (toR r) := by
 rw [qb9, qaV]
 refine .cond (fun _ => .pure fun h => by cases h) fun _ => ?_
 refine .cond (fun _ => .pure fun h => by cases h) fun _ => ?_
 refine .bind (qko _ 60 (by omega) h.a) fun x hx => .cond (fun _ => .pure fun h => by cases h) fun h1 => ?_
 refine .bind (qko _ 60 (by omega) h.b) fun y hy => .cond (fun _ => .pure fun h => by cases h) fun h2 => ?_
 refine .bind (qms _ 60 (by omega) h.c) fun z hz => .cond (fun _ => .pure fun h => by cases h) fun h3 => ?_
 refine .bind (qms _ 60 (by omega) h.d) fun u hu => .cond (fun _ => .pure fun h => by cases h) fun h4 => ?_
 have := hx h1
 have := hy h2
 have := hz h3
 have := hu h4
 rw [qaV]
 exact .pure fun _ => ⟨by dsimp only [toR]; omega, by dsimp only [toR]; omega, by dsimp only [toR]; omega, by dsimp only [toR]; omega⟩
theorem qqf : ∀ {a b : List Int}, a.Nodup → (∀ x ∈ a, x ∈ b) → b.length ≤ a.length → ∀ x ∈ b, x ∈ a
 | [], b, _, _, hl, x, hx => by
  have hb : b = [] := List.eq_nil_of_length_eq_zero (by simpa using hl)
  rw [hb] at hx
  cases hx
 | y :: a, b, hn, h, hl, x, hx => by
  obtain ⟨h1, h2⟩ := List.nodup_cons.1 hn
  have hy := h y (List.mem_cons_self ..)
  have hle := List.length_erase_of_mem hy
  by_cases e : x = y
  · rw [e]
    exact List.mem_cons_self ..
  · refine List.mem_cons_of_mem _ (qqf (b := b.erase y) h2 (fun z hz => (List.mem_erase_of_ne (fun e : z = y => h1 (by rw [← e]; exact hz))).2 (h z (List.mem_cons_of_mem _ hz))) ?_ x ((List.mem_erase_of_ne e).2 hx))
    rw [List.length_cons] at hl
    omega
theorem qqP (fuel : Nat) (hf : 100000 < fuel) (r : qG) (hB : Bd 60 (toR r)) : yR (qcK fuel r) fun b => b = true → ∀ v ∈ zV r.f3_Guard, v ∈ occH (toR r) := by
 unfold qcK
 have hB1 : Bd 60 (toR (⟨⟨#[]⟩, r.f1_Keep, r.f2_Remove, [], [], 0⟩ : qG)) := ⟨hB.a, hB.b, by simp [toR, wG], by simp [toR, wG]⟩
 have hB2 : Bd 60 (toR (⟨⟨#[]⟩, r.f1_Keep, r.f2_Remove, r.f3_Guard, [], 0⟩ : qG)) := ⟨hB.a, hB.b, hB.c, by simp [toR, wG]⟩
 have w1 := qr4 hB1
 have w2 := qr4 hB2
 rw [qoj _ (hB1.mono (by omega)), Option.bind_some, qmE fuel _ (by omega) (by omega), Option.bind_some, qoj _ (hB2.mono (by omega)), Option.bind_some, qmE fuel _ (by omega) (by omega), Option.bind_some, qp3, qp3]
 refine .pure fun h v hv => ?_
 have h1 : yt (toR (⟨⟨#[]⟩, r.f1_Keep, r.f2_Remove, [], [], 0⟩ : qG)) = occH (toR r) := by
  unfold yt zaE occH
  simp [toR, zV]
 have h2 : yt (toR (⟨⟨#[]⟩, r.f1_Keep, r.f2_Remove, r.f3_Guard, [], 0⟩ : qG)) = occH (toR r) ++ zV r.f3_Guard := by
  unfold yt zaE occH
  simp [toR, zV]
 rw [h1, h2] at h
 have h := eq_of_beq h
 have hm := qqf (a := z9 [] (occH (toR r))) (b := z9 [] (occH (toR r) ++ zV r.f3_Guard)) (qgV _ _ List.nodup_nil) (fun x hx => qku.2 (List.mem_append_left _ (qku.1 hx))) (by omega) v (qku.2 (List.mem_append_right _ hv))
 exact qku.1 hm
theorem qop : ∀ (l : List (Int × Int)) (v : Int), v ∈ zV (l.map tst) → ∃ t ∈ l, v = t.1 ∨ v = t.2
 | [], v, h => by cases h
 | t :: l, v, h => by
  rw [List.map_cons, zV] at h
  rcases List.mem_append.1 h with h | h
  · have : zm (tst t).ts = [t.1, t.2] := by
     show zm [.mk 1 t.1 ⟨#[]⟩ [], .mk 1 t.2 ⟨#[]⟩ []] = _
     rw [zm, zm, zm, qgH, qgH]
     rfl
    rw [this] at h
    simp only [List.mem_cons, List.not_mem_nil, or_false] at h
    exact ⟨t, List.mem_cons_self .., h⟩
  · obtain ⟨u, hu, h⟩ := qop l v h
    exact ⟨u, List.mem_cons_of_mem _ hu, h⟩
theorem qsV {r : Ru} (hB : Bd 60 r) (hk : ∀ v ∈ zV r.G, v ∈ occH r) : (∀ g ∈ (za4 r).G, wtL g.ts ≤ 150) ∧ ∀ v ∈ zV (za4 r).G, v ∈ occH (za4 r) := by
 by_cases hn : zaL r ∧ (zS r).G.length ≤ 12
 rotate_left
 · rw [qqI hn]
   refine ⟨fun g hg => ?_, hk⟩
   have := qmp hg
   have := hB.c
   omega
 rw [qoz hn]
 have hO : occH (zS r) = (z5 [] r.v (occH r)).1 := by
  show occH (setH r (z5 [] r.v (occH r)).1) = _
  exact qkE (qj6 _ _ _)
 have hpG : (zS r).G = (z5 [] r.v (occH r)).2.map tst ++ r.G := rfl
 have hNbeq : Nb (zS r) = wv ⟨(zS r).n, zaB (plc (vsU (zS r))) (zS r).K, zaB (plc (vsU (zS r))) (zS r).R, za2 (plc (vsU (zS r))) (zS r).G, za2 (plc (vsU (zS r))) (zS r).B, (zS r).v⟩ ((vsU (zS r)).length : Int) := by
  unfold Nb
  rw [qoK]
 have hG : (Nb (zS r)).G = za2 (plc (vsU (zS r))) (zS r).G := by
  rw [hNbeq]
  rfl
 have hocc2 : occH (Nb (zS r)) = (occH (zS r)).map (plc (vsU (zS r))) := by
  rw [hNbeq]
  show zA (zaB _ _) ++ zA (zaB _ _) = (zA (zS r).K ++ zA (zS r).R).map _
  rw [qfO, qfO, qhx _ _ (by simp), qhx _ _ (by simp), List.map_append]
 rw [hG, hocc2, qjN]
 have hlen := hn.2
 rw [hpG, List.length_append, List.length_map] at hlen
 refine ⟨fun g hg => ?_, fun v hv => ?_⟩
 · have h1 := qmp hg
   rw [qn7, hpG, qpK, qqn] at h1
   have := hB.c
   omega
 · rw [qjD _ _ (by simp)] at hv
   obtain ⟨x, hx, rfl⟩ := List.mem_map.1 hv
   refine List.mem_map_of_mem ?_
   rw [hpG, qnK] at hx
   rw [hO]
   rcases List.mem_append.1 hx with hx | hx
   · obtain ⟨t, ht, h⟩ := qop _ _ hx
     obtain ⟨h1, _, h3⟩ := qiU _ _ _ t ht
     rcases h with rfl | rfl
     · exact qlx _ _ _ _ h1.1 h1.2
     · exact h3.resolve_left fun h => by cases h
   · exact qhW _ _ _ _ (hk x hx) (by simp)
theorem qkM {a : At} (h : zO a = true) : zP a.ts = true ∧ zy a.ts ≤ 20 := by
 unfold zO yd at h
 simp only [Bool.and_eq_true, decide_eq_true_eq] at h
 exact ⟨h.2.1.1, h.2.2⟩
theorem qnA (k : Option Bool) : ∀ l : List At, (∀ a ∈ l, wtL a.ts ≤ 60) → ((∀ a ∈ l, zO a = true) → k = some true) → qaG k 500000 l = some true
 | [], _, h => by
  rw [qaG]
  exact h fun a ha => by cases ha
 | a :: l, hw, h => by
  have := hw a (List.mem_cons_self ..)
  rw [qaG, qmZ a (by omega), Option.bind_some]
  cases hr : zO a with
  | false =>
   rw [Bool.not_false, cond_true, zaw, Option.bind_some]
  | true =>
   rw [Bool.not_true, cond_false]
   refine qnA k l (fun b hb => hw b (List.mem_cons_of_mem _ hb)) fun hl => h fun b hb => ?_
   rcases List.mem_cons.1 hb with rfl | hb
   · exact hr
   · exact hl b hb
theorem qrs (r : qG) (l : List At) (hn : Nm r) (hl : NmA l) : qcr 500000 r l = some true := by
 unfold qcr
 rw [zaw]
 obtain ⟨b, e, hb⟩ := qrt r hn
 rw [e, Option.bind_some]
 cases b with
 | true => rfl
 | false =>
  have hB := hb rfl
  rw [cond_false]
  obtain ⟨c, e, hc⟩ := qqP 500000 (by omega) r hB
  rw [e, Option.bind_some]
  cases c with
  | false => rfl
  | true =>
   have hk := hc rfl
   rw [Bool.not_true, cond_false]
   cases (decide ((l.length : Int) > 5)) with
   | true => rfl
   | false =>
    rw [cond_false]
    obtain ⟨d, e, hd⟩ := qko l 60 (by omega) hl
    rw [e, Option.bind_some]
    cases d with
    | true => rfl
    | false =>
     have hw := hd rfl
     rw [cond_false]
     refine qnA _ l (fun a ha => by have := qmA ha; omega) fun hr => ?_
     have hB1 : Bd 1000 (toR r) := hB.mono (by omega)
     have hl61 : ∀ a ∈ l, wtL a.ts ≤ 61 := fun a ha => by have := qmA ha; omega
     obtain ⟨g1, g2⟩ := qsV hB hk
     obtain ⟨x, ex, hx⟩ := qpP 500000 (by omega) (ofR (za4 (toR r))) (by rw [qlB]; exact hB1.lin.mono (by omega)) l hl61 g1 (by rw [qlB]; exact g2)
     obtain ⟨y, ey, hy⟩ := qpP 500000 (by omega) r (hB.mono (by omega)) l hl61 (fun g hg => by have := qmp hg; have := hB.c; simp only [toR] at this; omega) hk
     rw [qlB] at hx
     have hiff := qri 500000 (by omega) (toR r) l (fun a ha => ⟨(qkM (hr a ha)).1, (qkM (hr a ha)).2, hl61 a ha⟩) hk
     have hxy : x = y := by
      have hy' : z6 (Appl 500000 (za4 (toR r)) l) y := hy.trans hiff.symm
      exact hx.eq hy'
     rw [qpF 500000 r hB1 (by omega), Option.bind_some, ex, Option.bind_some, ey, Option.bind_some, hxy, beq_self_eq_true]
     rfl
theorem qjj (r : qG) (l : List At) : zi Tryz.prog 3 [qp r, .lst (l.map zl)] (.bool true) := fun w p vs hi hv => by
 have hv' := hv
 simp only [zz] at hv'
 obtain ⟨v, _, _, h, v2, _, _, h2, _⟩ := hv'
 exact qfB 500000 r l true (qrs r l (qtA h) (qp7 h2)) w p vs hi hv
end Go.Proofs.YtabbfihjeppbhaaGreat
namespace Go.Proofs.YtabbfihjeppbhaaGreat
set_option maxRecDepth 100000
open Go.ChangeShapes Go.WideShapes Go.ChangeAt Go.RowKit
def live (w : World) (a : Addr) : Prop := ∃ v, w.cell? a = some v
theorem qqy {w w' : World} (e : Ext w w') : zM (live w) w (live w') w' := fun _ ⟨v, hv⟩ => ⟨⟨v, e.cellOf hv⟩, by rw [hv]; exact e.cellOf hv⟩
def Op (t : TypeId) (n : Nat) (S : D → Prop) : Prop := ∀ (H : Type) (enc : TypeId × Value → H) (W : World) (base : Nat) (sp : Nat → Bool) (hd : Bool) (fuel : Nat) (cs : List Value) (x : DataW H × List MemPlace),
 DataW.trod enc Tryz.prog W base sp hd fuel t cs = some x → ∃ d v, S d ∧ d.plain = true ∧ sz d = n ∧ Rep (live W) W d v ∧ cs = v.cells.toList
theorem Op.to {t : TypeId} {n : Nat} {S S' : D → Prop} (h : Op t n S) (k : ∀ d, S d → S' d) : Op t n S' := fun H enc W base sp hd fuel cs x hx => by
 obtain ⟨d, v, h1, h2⟩ := h H enc W base sp hd fuel cs x hx
 exact ⟨d, v, k d h1, h2⟩
theorem qr8 {t : TypeId} (ht : (Tryz.prog).underlying t = some (.int .i64)) : Op t 1 fun d => ∃ n, d = .int .i64 n := fun H enc W base sp hd fuel cs x hx => by
 obtain ⟨k, rfl, _, w0⟩ := DataW.trod_int ht hx
 have := qpy w0
 refine ⟨.int .i64 k, .int .i64 k, ⟨k, rfl⟩, rfl, rfl, ?_, by simp [Value.cells]⟩
 simp only [Rep]
 exact ⟨trivial, wrap64 (by unfold I64 at this; omega)⟩
theorem qqA {t : TypeId} (ht : (Tryz.prog).underlying t = some .string) : Op t 1 fun d => ∃ s, d = .str s := fun H enc W base sp hd fuel cs x hx => by
 obtain ⟨s, rfl, _, w0⟩ := DataW.trod_string ht hx
 refine ⟨.str s, .string s, ⟨s, rfl⟩, rfl, rfl, ?_, by simp [Value.cells]⟩
 simp only [Rep]
 exact ⟨trivial, by unfold maxLen at w0; omega⟩
def Fits : List (D → Prop) → List D → Prop
 | [], [] => True
 | S :: ss, d :: ds => S d ∧ Fits ss ds
 | _, _ => False
def tight (P : Program) : Nat → List Field → Bool
 | _, [] => true
 | o, f :: fs => f.offset == o && tight P (o + P.cellsOf f.type) fs
theorem qgY {p : Addr → Prop} {w : World} : ∀ {ds : List D} {cs : List Value}, zo p w ds cs → (∀ d ∈ ds, d.plain = true) → ∀ u ∈ cs, u.oneCell' = true
 | [], cs, h, _, u, hu => by simp only [zo] at h; subst h; simp at hu
 | d :: ds, cs, h, hp, u, hu => by
  simp only [zo] at h
  obtain ⟨v, rest, rfl, h1, h2⟩ := h
  rcases List.mem_append.1 hu with hu | hu
  · exact h1.one (hp d (List.mem_cons_self ..)) u hu
  · exact qgY h2 (fun e he => hp e (List.mem_cons_of_mem _ he)) u hu
def total (P : Program) : List Field → Nat
 | [] => 0
 | f :: fs => P.cellsOf f.type + total P fs
def Ops : List Field → List (D → Prop) → Prop
 | [], [] => True
 | f :: fs, S :: ss => Op f.type ((Tryz.prog).cellsOf f.type) S ∧ Ops fs ss
 | _, _ => False
theorem qkk {H : Type} {enc : TypeId × Value → H} {W : World} {base : Nat} {sp : Nat → Bool} {hd : Bool} {n : Nat} {cs : List Value} :
 ∀ (fs : List Field) (ss : List (D → Prop)) (o : Nat), Ops fs ss → tight Tryz.prog o fs = true → o + total Tryz.prog fs = cs.length →
  (∀ (i : Nat) (f : Field), fs[i]? = some f → ∃ x, DataW.trod enc Tryz.prog W base sp hd n f.type ((cs.drop f.offset).take ((Tryz.prog).cellsOf f.type)) = some x) →
  ∃ ds, Fits ss ds ∧ (∀ d ∈ ds, d.plain = true) ∧ szs ds = total Tryz.prog fs ∧ zo (live W) W ds (cs.drop o)
 | [], [], o, _, _, hl, _ => ⟨[], trivial, by simp, rfl, by simp only [total] at hl; rw [List.drop_eq_nil_of_le (by omega)]; exact zo.nil _ _⟩
 | f :: fs, S :: ss, o, hop, ht, hl, hx => by
  simp only [tight, Bool.and_eq_true, beq_iff_eq] at ht
  simp only [total] at hl
  obtain ⟨ds, h1, h2, h3, h4⟩ := qkk fs ss (o + (Tryz.prog).cellsOf f.type) hop.2 ht.2 (by omega) fun i g hg => hx (i + 1) g hg
  obtain ⟨x, h5⟩ := hx 0 f rfl
  rw [ht.1] at h5
  obtain ⟨d, v, g1, g2, g3, g4, g5⟩ := hop.1 H enc W base sp hd n _ x h5
  refine ⟨d :: ds, ⟨g1, h1⟩, ?_, by simp only [szs, total, g3, h3], ?_⟩
  · intro e he
    rcases List.mem_cons.1 he with rfl | he
    · exact g2
    · exact h2 e he
  · have := zo.cons g4 h4
    rw [← g5, ← List.drop_drop, List.take_append_drop] at this
    exact this
 | [], _ :: _, _, h, _, _, _ => h.elim
 | _ :: _, [], _, h, _, _, _ => h.elim
theorem qjW {t : TypeId} {fs : Array Field} {n : Nat} (ht : (Tryz.prog).underlying t = some (.struct fs)) (ss : List (D → Prop)) (hs : Ops fs.toList ss) (h1 : tight Tryz.prog 0 fs.toList = true) (h2 : total Tryz.prog fs.toList = n) (h3 : (Tryz.prog).cellsOf t = n) :
 Op t n fun d => ∃ ds, d = .agg ds ∧ Fits ss ds := fun H enc W base sp hd fuel cs x hx => by
 obtain ⟨xs, m, _, _, hl, hlen, hf⟩ := DataW.trod_struct ht hx
 obtain ⟨ds, g1, g2, g3, g4⟩ := qkk (enc := enc) (W := W) (base := base) (sp := sp) (hd := hd) (n := m) (cs := cs) fs.toList ss 0 hs h1 (by omega) fun i f hi => by
  have hi' : fs[i]? = some f := by simpa using hi
  have hlt : i < xs.length := by
   have := (Array.getElem?_eq_some_iff.1 hi').1
   omega
  exact ⟨xs[i], by rw [hf i f hi', List.getElem?_eq_getElem hlt]⟩
 refine ⟨.agg ds, .agg cs.toArray, ⟨ds, rfl, g1⟩, rfl, by simp only [sz]; omega, ?_, by simp [Value.cells]⟩
 simp only [Rep]
 rw [List.drop_zero] at g4
 exact ⟨cs, rfl, g4, qgY g4 g2⟩
def layD (n : Nat) (hn : 0 < n) (S : D → Prop) : Lay D where
 C := fun w d cs => S d ∧ d.plain = true ∧ sz d = n ∧ ∃ v, Rep (live w) w d v ∧ cs = v.cells.toList
 n := n
 pos := hn
 ext := fun ⟨h1, h2, h3, v, h4, h5⟩ e => ⟨h1, h2, h3, v, h4.grow (qqy e), h5⟩
 len := fun ⟨_, _, h3, v, h4, h5⟩ => by rw [h5, ← h3, ← h4.sz]; simp
 one := fun ⟨_, h2, _, v, h4, h5⟩ u hu => by subst h5; exact h4.one h2 u hu
theorem qqg {n : Nat} {hn : 0 < n} {S : D → Prop} {w : World} : ∀ {l : List D} {xs : List Value}, (layD n hn S).Ls w l xs → (∀ d ∈ l, S d ∧ d.plain = true) ∧ zo (live w) w l xs
 | [], xs, h => by
  have h : xs = [] := h
  subst h
  exact ⟨by simp, zo.nil _ _⟩
 | d :: l, xs, ⟨cs, ys, h1, ⟨g1, g2, _, v, g4, g5⟩, h3⟩ => by
  obtain ⟨k1, k2⟩ := qqg h3
  subst h1 g5
  refine ⟨?_, zo.cons g4 k2⟩
  intro e he
  rcases List.mem_cons.1 he with rfl | he
  · exact ⟨g1, g2⟩
  · exact k1 e he
theorem qqp {w : World} {A : Option Addr} {xs : List Value} (h : Rd w A xs) : RdP (live w) w A xs := by
 rcases h with h | ⟨ad, rfl, hc⟩
 · exact .inl h
 · by_cases he : xs = []
   · exact .inl he
   · have hlen : 0 < xs.length := List.length_pos_iff.2 he
     have hsp : ad.spot = none := by
      have := qjV (hc 0 _ (List.getElem?_eq_getElem hlen))
      simpa [Addr.add] using this
     obtain ⟨b, o, sp⟩ := ad
     simp only at hsp
     subst hsp
     refine .inr ⟨b, o, rfl, fun j u hu => ?_⟩
     have h1 : w.cell? ⟨b, o + j, none⟩ = some u := by have := hc j u hu; rwa [qlI] at this
     exact ⟨⟨u, h1⟩, h1⟩
theorem qrf {t e : TypeId} {n : Nat} {S : D → Prop} (ht : (Tryz.prog).underlying t = some (.slice e)) (hn : (Tryz.prog).cellsOf e = n) (hp : 0 < n) (he : Op e n S) : Op t 1 fun d => ∃ l, d = .lst l ∧ ∀ x ∈ l, S x := fun H enc W base sp hd fuel cs x hx => by
 obtain ⟨l, v, rfl, h1⟩ := Lay.open_sl (L := layD n hp S) ht hn (fun m cs x _ h => by
  obtain ⟨d, v, g1, g2, g3, g4, g5⟩ := he H enc W base sp hd m cs x h
  exact ⟨d, g1, g2, g3, v, g4, g5⟩) hx
 obtain ⟨A, c, xs, rfl, h2, h3, h4, h5⟩ := h1
 obtain ⟨h6, h7⟩ := qqg h5
 refine ⟨.lst l, .slice A l.length c, ⟨l, rfl, fun d hd => (h6 d hd).1⟩, rfl, rfl, ?_, by simp [Value.cells]⟩
 simp only [Rep]
 exact ⟨A, c, xs, rfl, h2, h3, qqp h4, h7, qgY h7 fun d hd => (h6 d hd).2⟩
theorem qox {α : Type} {f : α → D} : ∀ {l : List D}, (∀ x ∈ l, ∃ a, x = f a) → ∃ av : List α, l = av.map f
 | [], _ => ⟨[], rfl⟩
 | d :: l, h => by
  obtain ⟨a, rfl⟩ := h d (List.mem_cons_self ..)
  obtain ⟨av, rfl⟩ := qox fun x hx => h x (List.mem_cons_of_mem _ hx)
  exact ⟨a :: av, rfl⟩
theorem qne {α : Type} {f : α → D} {t e : TypeId} {n : Nat} (ht : (Tryz.prog).underlying t = some (.slice e)) (hn : (Tryz.prog).cellsOf e = n) (hp : 0 < n) (he : Op e n fun d => ∃ a, d = f a) : Op t 1 fun d => ∃ av : List α, d = .lst (av.map f) :=
 (qrf ht hn hp he).to fun d ⟨l, hl, h⟩ => by
  obtain ⟨av, rfl⟩ := qox h
  exact ⟨av, hl⟩
/-! ### terms -/
mutual
theorem qrU {w : World} : ∀ {t : T} {cs : List Value}, CT w t cs → zo (live w) w (fsT t) cs
 | .mk k i s ar, cs, h => by
  simp only [CT] at h
  obtain ⟨A, c, xs, rfl, ⟨h1, h2, h3, h4, h5⟩, h6, h7⟩ := h
  have g := qr1 h7
  simp only [fsT, zo, Rep]
  refine ⟨.int .i64 k, _, by simp [Value.cells]; rfl, ⟨rfl, wrap64 (by unfold I64 at h1; omega)⟩, .int .i64 i, _, by simp [Value.cells]; rfl, ⟨rfl, wrap64 (by unfold I64 at h2; omega)⟩, .string s, _, by simp [Value.cells]; rfl, ⟨rfl, h3⟩, .slice A ar.length c, _, by simp [Value.cells], ⟨A, c, xs, ?_, ?_, h5, qqp h6, g, qgY g ?_⟩, rfl⟩
  · rw [qhD]; simp
  · rw [qhD]; simpa using h4
  · rw [qhD]
    intro d hd
    obtain ⟨t, _, rfl⟩ := List.mem_map.1 hd
    rfl
theorem qr1 {w : World} : ∀ {ts : List T} {xs : List Value}, CL w ts xs → zo (live w) w (y8 ts) xs
 | [], xs, h => by
  simp only [CL] at h
  subst h
  simp only [y8, zo]
 | t :: ts, xs, h => by
  simp only [CL] at h
  obtain ⟨cs, ys, rfl, h1, h2⟩ := h
  have g := qrU h1
  simp only [y8, zo]
  refine ⟨.agg cs.toArray, ys, by simp [Value.cells], ?_, qr1 h2⟩
  simp only [Rep]
  exact ⟨cs, rfl, g, qgY g fun d hd => by
   rw [qcY] at hd
   simp only [List.mem_cons, List.not_mem_nil, or_false] at hd
   rcases hd with rfl | rfl | rfl | rfl <;> rfl⟩
end
theorem qsv : Op 47 4 fun d => ∃ t, d = ze t := fun H enc W base sp hd fuel cs x hx => by
 obtain ⟨t, ht⟩ := qo7 fuel cs x hx
 have g := qrU ht
 refine ⟨ze t, .agg cs.toArray, ⟨t, rfl⟩, rfl, qI t, ?_, by simp [Value.cells]⟩
 simp only [Rep]
 exact ⟨cs, rfl, g, qgY g fun d hd => by
  rw [qcY] at hd
  simp only [List.mem_cons, List.not_mem_nil, or_false] at hd
  rcases hd with rfl | rfl | rfl | rfl <;> rfl⟩
theorem qnV : Op 32 1 fun d => ∃ l : List T, d = .lst (l.map ze) := qne Tryz.underlying32 qje (by omega) qsv
theorem qse : Op 45 3 fun d => ∃ g, d = zk g :=
 (qjW Tryz.underlying45 [fun d => ∃ n, d = .int .i64 n, fun d => ∃ s, d = .str s, fun d => ∃ l : List T, d = .lst (l.map ze)] ⟨qr8 Tryz.underlying3, qqA Tryz.underlying9, qnV, trivial⟩ (by kernel_rfl) (by kernel_rfl) qk2).to fun d ⟨ds, hd, h⟩ => by
  match ds, h with
  | [_, _, _], ⟨⟨n, rfl⟩, ⟨s, rfl⟩, ⟨l, rfl⟩, _⟩ => exact ⟨⟨n, s, l⟩, hd⟩
/-! ### a law's arguments -/
def Cl (t : TypeId) (S : D → Prop) : Prop := ∀ (W : World) (b : Nat) (v : Value), Value.okWide Tryz.prog W .any b t v → ∀ d, S d → v = yg d v.cells.toList
theorem Cl.to {t : TypeId} {S S' : D → Prop} (h : Cl t S') (k : ∀ d, S d → S' d) : Cl t S := fun W b v hv d hd => h W b v hv d (k d hd)
theorem qpI {t : TypeId} {fs : Array Field} (ht : (Tryz.prog).underlying t = some (.struct fs)) : Cl t fun d => ∃ ds, d = .agg ds := fun W b v hv d ⟨ds, hd⟩ => by
 obtain ⟨cs, rfl, _⟩ := okWide_struct ht hv
 subst hd
 simp [Value.cells, yg]
theorem qrc {t e : TypeId} (ht : (Tryz.prog).underlying t = some (.slice e)) : Cl t fun d => ∃ l, d = .lst l := fun W b v hv d ⟨l, hd⟩ => by
 obtain ⟨a, n, c, rfl⟩ := okWide_slice ht hv
 subst hd
 simp [Value.cells, yg]
structure Arg where
 t : TypeId
 n : Nat
 S : D → Prop
 op : Op t n S
 cl : Cl t S
theorem qmb {H : Type} {enc : TypeId × Value → H} {W : World} {base b : Nat} {sp : Nat → Bool} {hd : Bool} : ∀ (av : List Arg) (vs : List Value) (ds : List (DataW H)) (ps : List MemPlace),
 DataW.TrodAll enc Tryz.prog W base sp hd (av.map Arg.t) vs ds ps → (∀ (j : Nat) t v, (av.map Arg.t)[j]? = some t → vs[j]? = some v → Value.okWide Tryz.prog W .any b t v) → ∃ es, Fits (av.map Arg.S) es ∧ zz (live W) W es vs
 | [], vs, ds, ps, h, _ => by
  obtain ⟨rfl, _, _⟩ := trodAll_nil h
  exact ⟨[], trivial, zz.nil _ _⟩
 | a :: av, vs, ds, ps, h, hv => by
  obtain ⟨v, vs', d, ds', p, q, rfl, rfl, rfl, ⟨fuel, h1⟩, h2⟩ := trodAll_cons h
  obtain ⟨es, g1, g2⟩ := qmb av vs' ds' q h2 fun j t u ht hu => hv (j + 1) t u ht hu
  obtain ⟨e, u, k1, k2, k3, k4, k5⟩ := a.op H enc W base sp hd fuel _ _ h1
  have e1 := a.cl W b v (hv 0 a.t v rfl rfl) e k1
  have e2 := k4.back
  rw [← k5] at e2
  rw [← e2] at e1
  subst e1
  exact ⟨e :: es, ⟨k1, g1⟩, zz.cons k4 g2⟩
theorem qrn {k : FuncId} {F : Func} (av : List Arg) (hp : F.params.toList = av.map Arg.t) (hg : ∀ es, Fits (av.map Arg.S) es → zi Tryz.prog k es (.bool true)) : Holds k F := by
 intro H enc W base args ds p hval hA
 rw [hp] at hA
 obtain ⟨es, h1, h2⟩ := qmb (b := base) av args.toList ds p hA fun j t v ht hv => hval j t v (by rw [← Array.getElem?_toList, hp]; exact ht) (by simpa using hv)
 have hI : Inv (ctx W (live W) []) (live W) [] W := ⟨by simp, by simp [yN], by simp [yN], fun a ha => ha, zM.refl _ _, fun a ha => .inl ha, rfl, rfl, rfl, Nat.le_refl _, fun b _ _ => rfl⟩
 refine (hg es h1 W (live W) args.toList hI h2).mono ?_
 rintro e w' (⟨v, d, σ, q, rfl, rfl, hr, hi⟩ | ⟨_, _, _, _, _, hx, _⟩)
 rotate_left
 · exact hx.elim
 simp only [Rep] at hr
 subst hr
 exact Ret.mk rfl ⟨hi.os, hi.tape, hi.output, hi.size, fun b hb => hi.block b hb (by simp [ctx, yN])⟩
theorem qsj : Op 34 2 fun d => ∃ a, d = zl a :=
 (qjW Tryz.underlying34 [fun d => ∃ s, d = .str s, fun d => ∃ l : List T, d = .lst (l.map ze)] ⟨qqA Tryz.underlying9, qnV, trivial⟩ (by kernel_rfl) (by kernel_rfl) (by kernel_rfl)).to fun d ⟨ds, hd, h⟩ => by
  match ds, h with
  | [_, _], ⟨⟨s, rfl⟩, ⟨l, rfl⟩, _⟩ => exact ⟨⟨s, l⟩, hd⟩
theorem qlH : Op 22 1 fun d => ∃ l : List At, d = .lst (l.map zl) := qne Tryz.underlying22 (by kernel_rfl) (by omega) qsj
theorem qoW : Op 23 1 fun d => ∃ l : List Gl, d = .lst (l.map zk) := qne Tryz.underlying23 qk2 (by omega) qse
theorem qsu : Op 25 6 fun d => ∃ r, d = qp r :=
 (qjW Tryz.underlying25 [fun d => ∃ s, d = .str s, fun d => ∃ l : List At, d = .lst (l.map zl), fun d => ∃ l : List At, d = .lst (l.map zl), fun d => ∃ l : List Gl, d = .lst (l.map zk), fun d => ∃ l : List Gl, d = .lst (l.map zk), fun d => ∃ n, d = .int .i64 n] ⟨qqA Tryz.underlying9, qlH, qlH, qoW, qoW, qr8 Tryz.underlying3, trivial⟩ (by kernel_rfl) (by kernel_rfl) (by kernel_rfl)).to fun d ⟨ds, hd, h⟩ => by
  match ds, h with
  | [_, _, _, _, _, _], ⟨⟨s, rfl⟩, ⟨a, rfl⟩, ⟨b, rfl⟩, ⟨c, rfl⟩, ⟨e, rfl⟩, ⟨n, rfl⟩, _⟩ => exact ⟨⟨s, a, b, c, e, n⟩, hd⟩
def aRule : Arg := ⟨_, _, _, qsu, (qpI Tryz.underlying25).to fun _ ⟨_, h⟩ => ⟨_, h⟩⟩
def aAtoms : Arg := ⟨_, _, _, qlH, (qrc Tryz.underlying22).to fun _ ⟨_, h⟩ => ⟨_, h⟩⟩
end Go.Proofs.YtabbfihjeppbhaaGreat
