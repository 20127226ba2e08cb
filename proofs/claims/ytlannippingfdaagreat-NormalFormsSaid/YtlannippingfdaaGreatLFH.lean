/-
  Texts of the seat, merged.
-/
import Derived.Test.YtlannippingfdaaGreatLFA
import Derived.Test.YtlannippingfdaaGreatLFB
import Derived.Test.YtlannippingfdaaGreatLFC
import Derived.Test.YtlannippingfdaaGreatLFD
import Derived.Test.YtlannippingfdaaGreatLFE
import Derived.Test.YtlannippingfdaaGreatLFF
import Derived.Test.YtlannippingfdaaGreatLFG
import Derived.Test.YtlannippingfdaaGreatChecked
import Derived.WalkKit
import Derived.Lib.Hide
import Derived.Lib.AppendStr
import Derived.Deep.AppendLies
import Derived.Deep.AppendSrc
import Derived.Deep.Draws
import Derived.Deep.QuietTactic
import Derived.BigQuiet
import Derived.Deep.RegionWith
import Derived.Maps.AppendAt
import Derived.WalkSpells
import Derived.Deep.Slices
import Derived.Deep.Fields
import Derived.ChangeArms
import Derived.Orders
import Derived.RangeFuncNested
import Derived.RangeFuncBound
import Derived.RangeFuncCalls
import Derived.RangeFuncLeaves
import Derived.Shelf.Abstract
import Derived.OwnWalkIn
import Derived.TacticsInMore
import Derived.LoopNIn
import Derived.LoopIn
import Derived.Lib.OthersKept
import Derived.Lib.TrimU
import Derived.Lib.IndexAny
import Derived.Deep.LoopGhost
import Derived.Lib.Bytealg
import Derived.RangeFuncBox
import Derived.RangeFuncWrites
import Derived.Maps.OwnIn
import Derived.Maps.Views
import Derived.Laws.OwnMore
import Derived.Maps.OwnSet
import Derived.Test.YtlannippingfdaaGreatRows
import Derived.ProofKit
import Derived.OpenShut
import Derived.Carry
import Derived.OrdersIn
import Derived.Great.BuildSlice
import Derived.ArgAppend
import Derived.Laws.MakeOwn
import Derived.Laws.Cover3
import Derived.Laws.CopyRow
import Derived.MapKept
import Derived.Maps.RangeRun
import Derived.DeepKeys5
import Derived.WideKeyRuns
import Derived.RangeFuncOwn
import Derived.Lib.AppendZeros
import Derived.ChangeSlices
set_option linter.unusedVariables false
set_option linter.unusedSimpArgs false
set_option linter.unnecessarySimpa false
set_option linter.all false

namespace Go.Proofs.YtlannippingfdaaGreat
set_option maxRecDepth 100000
open Go.RowKit

/-! ### occurrences -/
theorem places_L0 {rec : List T → Option (List Int)} (k : List Int → Option (List Int)) : ∀ (ts : List T) (out : List Int), (∀ q ∈ ts, rec q.ar = some (occL q.ar)) → out.length + (occL ts).length ≤ 1000000 → lf_constraintref17_places_L0 k rec ts out = k (out ++ occL ts)
  | [], out, _, _ => by rw [lf_constraintref17_places_L0, occL, List.append_nil]
  | q :: ts, out, hr, hl => by
    rw [occL, List.length_append] at hl
    have hr' : ∀ t ∈ ts, rec t.ar = some (occL t.ar) := fun t ht => hr t (List.mem_cons_of_mem _ ht)
    rw [lf_constraintref17_places_L0, occL]
    rcases kind3 q.k with h | h | ⟨h1, h2⟩
    · rw [beqT h, cond_true]
      rw [occ_k1 h] at hl ⊢
      rw [appO1 (by omega) (n := (occL ts).length) (by simp at hl; omega), Option.bind_some, beqF (by omega), cond_false, places_L0 k ts _ hr' (by simp at hl ⊢; omega), List.append_assoc]
    · rw [beqF (by omega), cond_false, beqT h, cond_true, hr q (List.mem_cons_self ..), Option.bind_some]
      rw [occ_k2 h] at hl ⊢
      rw [appO_le (by omega) (by omega), Option.bind_some, places_L0 k ts _ hr' (by rw [List.length_append]; omega), List.append_assoc]
    · rw [beqF h1, cond_false, beqF h2, cond_false]
      rw [occ_k0 h1 h2] at hl ⊢
      rw [places_L0 k ts _ hr' (by simp at hl; omega), List.nil_append]
theorem places_lf : ∀ (fuel : Nat) (ts : List T), wtL ts < fuel → wtL ts ≤ 1000000 → lf_constraintref17_places fuel ts = some (occL ts)
  | 0, _, h, _ => absurd h (Nat.not_lt_zero _)
  | fuel + 1, ts, h, hw => by
    have := occL_wt ts
    rw [lf_constraintref17_places]
    dsimp only
    rw [places_L0 _ ts [] (fun q hq => ?_) (by simp; omega)]
    · rfl
    · have h1 := wt_mem hq
      have h2 := wt_eq q
      exact places_lf fuel q.ar (by omega) (by omega)
theorem inHeads_L0 (fuel : Nat) (k : List Int → Option (List Int)) : ∀ (l : List At) (out : List Int), wA l < fuel → wA l ≤ 1000000 → out.length + (occA l).length ≤ 1000000 → lf_constraintref17_inHeads_L0 k fuel l out = k (out ++ occA l)
  | [], out, _, _, _ => by rw [lf_constraintref17_inHeads_L0, occA, List.append_nil]
  | a :: l, out, hf, hw, h => by
    rw [wA] at hf hw
    rw [occA, List.length_append] at h
    rw [lf_constraintref17_inHeads_L0, places_lf fuel a.ts (by omega) (by omega), Option.bind_some, appO_le (by omega) (by omega), Option.bind_some, inHeads_L0 fuel k l _ (by omega) (by omega) (by rw [List.length_append]; omega), occA, List.append_assoc]
theorem occA_app : ∀ a b : List At, occA (a ++ b) = occA a ++ occA b
  | [], b => rfl
  | x :: a, b => by rw [List.cons_append, occA, occA, occA_app a b, List.append_assoc]
theorem rheads_lf (r : S_api_Rule) (hB : Bd 100000 (toR r)) : lf_constraintref16_Heads r = some (r.f1_Keep ++ r.f2_Remove) := by
  have h1 := hB.a
  have h2 := hB.b
  simp only [toR] at h1 h2
  have l1 := lenA_wt r.f1_Keep
  have l2 := lenA_wt r.f2_Remove
  rw [lf_constraintref16_Heads, appO_le (by omega) (by simp; omega), Option.bind_some, List.nil_append, appO_le (by omega) (by omega), Option.bind_some]
theorem inHeads_lf (fuel : Nat) (r : S_api_Rule) (hB : Bd 100000 (toR r)) (hf : 200000 < fuel) : lf_constraintref17_inHeads fuel r = some (occH (toR r)) := by
  have h1 := hB.a
  have h2 := hB.b
  simp only [toR] at h1 h2
  have o1 := occA_wt r.f1_Keep
  have o2 := occA_wt r.f2_Remove
  rw [lf_constraintref17_inHeads, rheads_lf r hB, Option.bind_some, inHeads_L0 fuel _ _ _ (by rw [wA_app]; omega) (by rw [wA_app]; omega) (by rw [occA_app]; simp; omega), occA_app]
  rfl
theorem rhas_L0 (n : Int) : ∀ l : List Int, lf_constraintref17_has_L0 (some false) n l = some (decide (n ∈ l))
  | [] => by rw [lf_constraintref17_has_L0]; rfl
  | x :: l => by
    rw [lf_constraintref17_has_L0, rhas_L0 n l]
    by_cases h : x = n
    · subst h; simp
    · have h' : n ≠ x := fun e => h e.symm
      rw [beq_false_of_ne h]
      simp [h']
theorem rhas_lf (l : List Int) (n : Int) : lf_constraintref17_has l n = some (decide (n ∈ l)) := rhas_L0 n l
theorem risLin_L0 (all : List Int) : ∀ (l : List Int) (i : Nat), l = all.drop i → i ≤ all.length → (all.take i).Nodup → TotP (lf_constraintref17_IsLinear_L0 (some true) all l i) (Tells all.Nodup)
  | [], i, hl, hi, hn => by
    rw [lf_constraintref17_IsLinear_L0]
    have : all.length ≤ i := by
      have := congrArg List.length hl
      simp at this
      omega
    rw [List.take_of_length_le this] at hn
    exact .pure (.t hn)
  | v :: l, i, hl, hi, hn => by
    have hlt : i < all.length := by
      have := congrArg List.length hl
      simp at this
      omega
    rw [List.drop_eq_getElem_cons hlt] at hl
    obtain ⟨hv, hl⟩ := List.cons.inj hl
    rw [lf_constraintref17_IsLinear_L0]
    unfold subO
    rw [if_pos (by omega), Option.bind_some, Int.toNat_natCast, Int.toNat_zero, List.drop_zero, rhas_lf, Option.bind_some]
    have ht : all.take (i + 1) = all.take i ++ [v] := by rw [List.take_add_one, hv]; simp [hlt]
    by_cases h : v ∈ all.take i
    · rw [decide_eq_true h, cond_true]
      refine .pure (.f fun k => ?_)
      have k2 : (all.take (i + 1)).Nodup := k.sublist (List.take_sublist ..)
      rw [ht] at k2
      exact (List.nodup_append.1 k2).2.2 v h v (by simp) rfl
    · rw [decide_eq_false h, cond_false]
      refine risLin_L0 all l (i + 1) hl hlt ?_
      rw [ht]
      have := addU_nodup hn v
      rwa [addU, if_neg h] at this
theorem risLinear_tot (fuel : Nat) (r : S_api_Rule) (hB : Bd 100000 (toR r)) (hf : 200000 < fuel) : TotP (lf_constraintref17_IsLinear fuel r) (Tells ((occH (toR r)).Nodup)) := by
  rw [lf_constraintref17_IsLinear, inHeads_lf fuel r hB hf, Option.bind_some]
  exact risLin_L0 _ _ 0 (by rw [List.drop_zero]) (Nat.zero_le _) (by rw [List.take_zero]; exact List.nodup_nil)
/-! ### the reference's linear form -/
abbrev SR := List Int × Int × List Gl
def fR (v : Int) (s : SR) : Int × SR := if v ∈ s.1 then (s.2.1, (s.1 ++ [s.2.1], s.2.1 + 1, s.2.2 ++ [tst (s.2.1, v)])) else (v, (s.1 ++ [v], s.2.1, s.2.2))
def iR (n : Nat) (s : SR) : Prop := s.1.length + n ≤ 1000000 ∧ s.2.2.length + n ≤ 1000000 ∧ -1000000000 ≤ s.2.1 ∧ s.2.1 + n ≤ 1000000000
theorem kept_R : Kept fR iR := by
  refine ⟨fun n v s h => ?_, fun n s h => by unfold iR at h ⊢; omega⟩
  unfold iR at h ⊢
  unfold fR
  obtain ⟨h1, h2, h3, h4⟩ := h
  split
  · dsimp only
    rw [List.length_append, List.length_singleton, List.length_append, List.length_singleton]
    omega
  · dsimp only
    rw [List.length_append, List.length_singleton]
    omega
theorem cleanL_cons {t u : T} {ts us : List T} (h : clean t = clean u) (k : cleanL ts = cleanL us) : cleanL (t :: ts) = cleanL (u :: us) := by rw [cleanL, cleanL, h, k]
theorem clean_k1 {q : T} (h : q.k = 1) (n : Int) : clean (.mk 1 n ⟨#[]⟩ []) = clean (.mk q.k n q.s q.ar) := by
  rw [h, clean_var, clean_var]
theorem lin_L0 {rec : List T → List Int → Int → List Gl → Option (List T × List Int × Int × List Gl)} (k : List T → List Int → Int → List Gl → Option (List T × List Int × Int × List Gl)) :
    ∀ (ts out : List T) (s : SR), (∀ q ∈ ts, ∀ s, iR (occL q.ar).length s → ∃ us, rec q.ar s.1 s.2.1 s.2.2 = some (us, (acc fR (occL q.ar) s).2) ∧ cleanL us = cleanL (setL q.ar (acc fR (occL q.ar) s).1) ∧ wtL us ≤ wtL q.ar) → out.length + ts.length ≤ 1000000 → iR (occL ts).length s →
    ∃ us, lf_Pconstraintref17_linear_terms_s1_L0 k rec ts out s.1 s.2.1 s.2.2 = k (out ++ us) (acc fR (occL ts) s).2.1 (acc fR (occL ts) s).2.2.1 (acc fR (occL ts) s).2.2.2 ∧ cleanL us = cleanL (setL ts (acc fR (occL ts) s).1) ∧ wtL us ≤ wtL ts
  | [], out, s, _, _, _ => ⟨[], by rw [lf_Pconstraintref17_linear_terms_s1_L0, List.append_nil]; rfl, rfl, Nat.le_refl _⟩
  | q :: ts, out, s, hr, hl, hI => by
    rw [occL, List.length_append] at hI
    rw [List.length_cons] at hl
    have step : ∀ (x : T) (s' : SR), clean x = clean (setT q (acc fR (occT q) s).1) → wt x ≤ wt q → s' = (acc fR (occT q) s).2 → ∃ us, ((appO 56 out [x]).bind fun l => lf_Pconstraintref17_linear_terms_s1_L0 k rec ts l s'.1 s'.2.1 s'.2.2) = k (out ++ us) (acc fR (occL (q :: ts)) s).2.1 (acc fR (occL (q :: ts)) s).2.2.1 (acc fR (occL (q :: ts)) s).2.2.2 ∧ cleanL us = cleanL (setL (q :: ts) (acc fR (occL (q :: ts)) s).1) ∧ wtL us ≤ wtL (q :: ts) := fun x s' hx hw hs => by
      obtain ⟨us, e1, e2, e3⟩ := lin_L0 k ts (out ++ [x]) s' (fun t ht => hr t (List.mem_cons_of_mem _ ht)) (by rw [List.length_append, List.length_singleton]; omega) (by rw [hs]; exact kept_R.acc _ _ _ hI)
      refine ⟨x :: us, ?_, ?_, by rw [wtL, wtL]; omega⟩
      · rw [appO1 (by omega) hl, Option.bind_some, e1, accL2, hs, List.append_assoc, List.singleton_append]
      · rw [setL_acc]
        exact cleanL_cons hx (by rw [e2, hs])
    rw [lf_Pconstraintref17_linear_terms_s1_L0]
    rcases kind3 q.k with h | h | ⟨h1, h2⟩
    · rw [beqF (by omega), cond_false, beqT h, cond_true, rhas_lf, Option.bind_some]
      rw [occ_k1 h] at hI step
      have hI1 : iR 1 s := kept_R.less hI (by simp)
      obtain ⟨g1, g2, g3, g4⟩ := hI1
      by_cases hm : q.i ∈ s.1
      · have ef : fR q.i s = (s.2.1, (s.1 ++ [s.2.1], s.2.1 + 1, s.2.2 ++ [tst (s.2.1, q.i)])) := by unfold fR; rw [if_pos hm]
        rw [decide_eq_true hm, cond_true, lf_constraintref03_Var, lf_constraintref03_Var, Option.bind_some, Option.bind_some, appO1 (by omega) (by omega), Option.bind_some]
        simp only [T.k, T.i, T.s, T.ar]
        rw [beqT rfl, cond_true, appO1 (by omega) (by omega), Option.bind_some, wr_eq (n := s.2.1 + 1) (by omega)]
        refine step (.mk 1 s.2.1 ⟨#[]⟩ []) (s.1 ++ [s.2.1], s.2.1 + 1, s.2.2 ++ [tst (s.2.1, q.i)]) ?_ (by rw [wt_eq, wt_eq]; simp [T.ar, wtL]) ?_
        · rw [setT_var h, acc, ef]
          exact clean_k1 h _
        · rw [acc, ef]
          rfl
      · have ef : fR q.i s = (q.i, (s.1 ++ [q.i], s.2.1, s.2.2)) := by unfold fR; rw [if_neg hm]
        rw [decide_eq_false hm, cond_false, appO1 (by omega) (by omega), Option.bind_some]
        refine step (.mk q.k q.i q.s q.ar) (s.1 ++ [q.i], s.2.1, s.2.2) ?_ (by rw [wt_eq, wt_eq]; exact Nat.le_refl _) ?_
        · rw [setT_var h, acc, ef]
          rfl
        · rw [acc, ef]
          rfl
    · rw [occ_k2 h] at hI step
      obtain ⟨us, e1, e2, e3⟩ := hr q (List.mem_cons_self ..) s (kept_R.less hI (by omega))
      rw [beqT h, cond_true, e1, Option.bind_some, beqF (by omega), cond_false]
      refine step (.mk q.k q.i q.s us) (acc fR (occL q.ar) s).2 ?_ (by have h8 := wt_eq q; have h9 : wt (T.mk q.k q.i q.s us) = 1 + wtL us := (by rw [wt]); omega) rfl
      rw [setT_fun h, h, clean_fun, clean_fun, e2]
    · rw [beqF h2, cond_false, beqF h1, cond_false]
      rw [occ_k0 h1 h2] at hI step
      refine step (.mk q.k q.i q.s q.ar) s ?_ (by rw [wt_eq, wt_eq]; exact Nat.le_refl _) rfl
      rw [setT_oth h1 h2]
theorem rlin_lf : ∀ (fuel : Nat) (ts : List T) (s : SR), wtL ts < fuel → wtL ts ≤ 1000000 → iR (occL ts).length s → ∃ us, lf_Pconstraintref17_linear_terms_s1 fuel ts s.1 s.2.1 s.2.2 = some (us, (acc fR (occL ts) s).2) ∧ cleanL us = cleanL (setL ts (acc fR (occL ts) s).1) ∧ wtL us ≤ wtL ts
  | 0, _, _, h, _, _ => absurd h (Nat.not_lt_zero _)
  | fuel + 1, ts, s, h, hw, hI => by
    have := len_wtL ts
    rw [lf_Pconstraintref17_linear_terms_s1]
    dsimp only
    obtain ⟨us, e1, e2, e3⟩ := lin_L0 (rec := lf_Pconstraintref17_linear_terms_s1 fuel) (fun out_12 x_15 x_16 x_17 => some (out_12, x_15, x_16, x_17)) ts [] s (fun q hq s hs => by
      have h1 := wt_mem hq
      have h2 := wt_eq q
      exact rlin_lf fuel q.ar s (by omega) (by omega) hs) (by simp; omega) hI
    exact ⟨us, e1, e2, e3⟩
theorem rlinA_L0 (fuel : Nat) (k : List At → List Int → Int → List Gl → Option (List At × List Int × Int × List Gl)) :
    ∀ (ts out : List At) (s : SR), wA ts < fuel → wA ts ≤ 1000000 → out.length + ts.length ≤ 1000000 → iR (occA ts).length s →
    ∃ us, lf_Pconstraintref17_linear_atoms_s1_L0 k fuel ts out s.1 s.2.1 s.2.2 = k (out ++ us) (acc fR (occA ts) s).2.1 (acc fR (occA ts) s).2.2.1 (acc fR (occA ts) s).2.2.2 ∧ cleanA us = cleanA (setA ts (acc fR (occA ts) s).1) ∧ wA us ≤ wA ts
  | [], out, s, _, _, _, _ => ⟨[], by rw [lf_Pconstraintref17_linear_atoms_s1_L0, List.append_nil]; rfl, rfl, Nat.le_refl _⟩
  | q :: ts, out, s, hf, hw, hl, hI => by
    rw [occA, List.length_append] at hI
    rw [List.length_cons] at hl
    rw [wA] at hf hw
    obtain ⟨vs, e1, e2, w1⟩ := rlin_lf fuel q.ts s (by omega) (by omega) (kept_R.less hI (by omega))
    obtain ⟨us, e3, e4, w2⟩ := rlinA_L0 fuel k ts (out ++ [⟨q.n, vs⟩]) (acc fR (occL q.ts) s).2 (by omega) (by omega) (by rw [List.length_append, List.length_singleton]; omega) (kept_R.acc _ _ _ hI)
    refine ⟨⟨q.n, vs⟩ :: us, ?_, ?_, by rw [wA, wA]; dsimp only; omega⟩
    · rw [lf_Pconstraintref17_linear_atoms_s1_L0, e1, Option.bind_some]
      dsimp only
      rw [appO1 (by omega) hl, Option.bind_some, e3, accA2, List.append_assoc, List.singleton_append]
    · rw [setA_acc, cleanA, cleanA, e2, e4]
theorem rlinA_lf (fuel : Nat) (ts : List At) (s : SR) (hf : wA ts < fuel) (hw : wA ts ≤ 1000000) (hI : iR (occA ts).length s) : ∃ us, lf_Pconstraintref17_linear_atoms_s1 fuel ts s.1 s.2.1 s.2.2 = some (us, (acc fR (occA ts) s).2) ∧ cleanA us = cleanA (setA ts (acc fR (occA ts) s).1) ∧ wA us ≤ wA ts := by
  have := lenA_wt ts
  exact rlinA_L0 fuel (fun out_12 x_15 x_16 x_17 => some (out_12, x_15, x_16, x_17)) ts [] s hf hw (by simp; omega) hI
/-- New numbers among those seen change nothing. -/
theorem acc_R (n0 : Int) : ∀ (l s seen : List Int) (n : Int) (g : List Gl), (∀ v ∈ l, v < n0) → n0 ≤ n → (∀ v, v < n0 → (v ∈ seen ↔ v ∈ s)) →
    (acc fR l (seen, n, g)).1 = (linO s n l).1 ∧ (acc fR l (seen, n, g)).2.2.1 = n + (linO s n l).2.length ∧ (acc fR l (seen, n, g)).2.2.2 = g ++ (linO s n l).2.map tst
  | [], s, seen, n, g, _, _, _ => by
    rw [acc, linO]
    simp
  | v :: l, s, seen, n, g, hl, hn, hs => by
    have hv := hl v (List.mem_cons_self ..)
    rw [acc]
    unfold fR
    dsimp only
    by_cases h : v ∈ s
    · rw [if_pos ((hs v hv).2 h), lin_in h]
      dsimp only
      obtain ⟨h1, h2, h3⟩ := acc_R n0 l s (seen ++ [n]) (n + 1) (g ++ [tst (n, v)]) (fun x hx => hl x (List.mem_cons_of_mem _ hx)) (by omega) fun x hx => by
        rw [List.mem_append, List.mem_singleton, hs x hx]
        exact ⟨fun e => e.resolve_right (by omega), .inl⟩
      unfold fR at h1 h2 h3
      refine ⟨by rw [h1], by rw [h2, List.length_cons]; omega, by rw [h3]; simp⟩
    · rw [if_neg fun e => h ((hs v hv).1 e), lin_out h]
      dsimp only
      obtain ⟨h1, h2, h3⟩ := acc_R n0 l (s ++ [v]) (seen ++ [v]) n g (fun x hx => hl x (List.mem_cons_of_mem _ hx)) hn fun x hx => by
        rw [List.mem_append, List.mem_append, hs x hx]
      unfold fR at h1 h2 h3
      exact ⟨by rw [h1], h2, h3⟩
theorem Nb_v (r : Ru) (n : Int) : Nb (wv r n) = Nb r := rfl
theorem rlinear_tot (fuel : Nat) (r : S_api_Rule) (hB : Bd 1000 (toR r)) (hf : 400000 < fuel) : TotP (lf_constraintref17_Linear fuel r) fun r' => Sm (linR (toR r)) (toR r') := by
  obtain ⟨b, e, hb⟩ := rnumbered_tot fuel r (hB.mono (by omega)) hf
  rw [lf_constraintref17_Linear, e, Option.bind_some]
  unfold linR
  cases b with
  | false =>
    rw [Bool.not_false, cond_true, if_neg (fun h => by have := hb.2 h.1; cases this)]
    exact .pure rfl
  | true =>
    have hN := hb.1 rfl
    have hv := hN.vle hB
    have h1 := hB.a
    have h2 := hB.b
    have h3 := hB.c
    simp only [toR] at h1 h2 h3 hv
    have o1 := occA_wt r.f1_Keep
    have o2 := occA_wt r.f2_Remove
    have hI : iR ((occA r.f1_Keep).length + (occA r.f2_Remove).length) (([] : List Int), r.f5_Vars, ([] : List Gl)) := by
      unfold iR
      simp
      omega
    have hI1 := kept_R.acc _ _ _ hI
    obtain ⟨us, e1, c1, w1⟩ := rlinA_lf fuel r.f1_Keep ([], r.f5_Vars, []) (by omega) (by omega) (kept_R.less hI (by omega))
    obtain ⟨vs, e2, c2, w2⟩ := rlinA_lf fuel r.f2_Remove (acc fR (occA r.f1_Keep) ([], r.f5_Vars, [])).2 (by omega) (by omega) hI1
    dsimp only at e1
    rw [Bool.not_true, cond_false, e1, Option.bind_some]
    dsimp only
    rw [e2, Option.bind_some]
    obtain ⟨a1, a2, a3⟩ := acc_R r.f5_Vars (occH (toR r)) [] [] r.f5_Vars [] (fun v hv => (hN.lt (occH_sub hv)).2) (Int.le_refl _) fun _ _ => Iff.rfl
    unfold occH at a1 a2 a3
    rw [acc_app] at a1 a2 a3
    dsimp only [toR] at a1 a2 a3
    have hl := lin_le (occH (toR r)) [] r.f5_Vars
    have hl2 := occH_le hB
    have hg : (acc fR (occA r.f2_Remove) (acc fR (occA r.f1_Keep) ([], r.f5_Vars, [])).2).2.2.2.length ≤ 2000 := by
      rw [a3, List.nil_append, List.length_map]
      unfold occH at hl hl2
      dsimp only [toR] at hl hl2
      omega
    have h3l := lenG_wt r.f3_Guard
    dsimp only
    rw [appO_le (by omega) (by simp; omega), Option.bind_some, List.nil_append, appO_le (by omega) (by omega), Option.bind_some]
    have hG : (preL (toR r)).G = (acc fR (occA r.f2_Remove) (acc fR (occA r.f1_Keep) ([], r.f5_Vars, [])).2).2.2.2 ++ r.f3_Guard := by
      rw [a3]
      rfl
    have hS : Sm (wv (preL (toR r)) 0) (toR ⟨r.f0_Name, us, vs, (acc fR (occA r.f2_Remove) (acc fR (occA r.f1_Keep) ([], r.f5_Vars, [])).2).2.2.2 ++ r.f3_Guard, r.f4_Body, 0⟩) := by
      have hp : preL (toR r) = ⟨r.f0_Name, setA r.f1_Keep (acc fR (occA r.f1_Keep) ([], r.f5_Vars, [])).1, setA r.f2_Remove (acc fR (occA r.f2_Remove) (acc fR (occA r.f1_Keep) ([], r.f5_Vars, [])).2).1, (acc fR (occA r.f2_Remove) (acc fR (occA r.f1_Keep) ([], r.f5_Vars, [])).2).2.2.2 ++ r.f3_Guard, r.f4_Body, r.f5_Vars⟩ := by
        rw [← hG]
        unfold preL occH
        dsimp only [toR]
        rw [← a1, setH_eq _ _ _ (acc_len _ _)]
      rw [hp]
      refine (sm_iff _ _).2 ⟨rfl, c1.symm, c2.symm, rfl, rfl, rfl⟩
    by_cases h12 : (preL (toR r)).G.length ≤ 12
    · have hd : ¬ (((acc fR (occA r.f2_Remove) (acc fR (occA r.f1_Keep) ([], r.f5_Vars, [])).2).2.2.2 ++ r.f3_Guard).length : Int) > 12 := by
        rw [← hG]
        omega
      rw [decide_eq_false hd, cond_false, if_pos ⟨hN, h12⟩]
      have hBp := hB.pre
      have hBq : Bd 100000 (toR ⟨r.f0_Name, us, vs, (acc fR (occA r.f2_Remove) (acc fR (occA r.f1_Keep) ([], r.f5_Vars, [])).2).2.2.2 ++ r.f3_Guard, r.f4_Body, 0⟩) := by
        have h3' := hBp.c
        rw [hG] at h3'
        have h4 := hB.d
        simp only [toR] at h4
        exact ⟨by dsimp only [toR]; omega, by dsimp only [toR]; omega, by dsimp only [toR]; omega, by dsimp only [toR]; omega⟩
      rw [rnumber_lf fuel _ hBq hf, Option.bind_some]
      refine .pure ?_
      have := hS.nb
      rwa [Nb_v] at this
    · have hd : (((acc fR (occA r.f2_Remove) (acc fR (occA r.f1_Keep) ([], r.f5_Vars, [])).2).2.2.2 ++ r.f3_Guard).length : Int) > 12 := by
        rw [← hG]
        omega
      rw [decide_eq_true hd, cond_true, if_neg (fun h => h12 h.2)]
      exact .pure rfl
end Go.Proofs.YtlannippingfdaaGreat


namespace Go.Proofs.YtlannippingfdaaGreat
set_option maxRecDepth 100000
open Go.RowKit

/-- The numbers of a test. -/
def prG (g : Gl) : Int × Int := match g.ts with
  | [a, b] => (a.i, b.i)
  | _ => (0, 0)
/-- A joining test, ahead of other goals; l: the occurrences in the heads. -/
def jOk (g : Gl) (G B : List Gl) (l : List Int) : Prop := g.op = 5 ∧ rightG g = true ∧ (∃ a b, g.ts = [a, b] ∧ a.k = 1 ∧ b.k = 1) ∧ (prG g).1 ≠ (prG g).2 ∧ l.count (prG g).1 = 1 ∧ (prG g).2 ∈ l ∧ (prG g).1 ∉ occG G ∧ (prG g).1 ∉ occG B
open Classical in
noncomputable def jnG (B : List Gl) : List Gl → List Int → List Int × List Gl
  | [], l => (l, [])
  | g :: G, l => if jOk g G B l then jnG B G (sub1 (prG g).1 (prG g).2 l) else (l, g :: G)
def JO (r : Ru) : Prop := match r.G with
  | [] => False
  | g :: G => jOk g G r.B (occH r)
noncomputable def jnR (r : Ru) : Ru := { setH r (jnG r.B r.G (occH r)).1 with G := (jnG r.B r.G (occH r)).2 }
open Classical in
noncomputable def joinR (r : Ru) : Ru := if IsNb r then Nb (jnR r) else r
theorem two {α : Type} {l : List α} (h : l.length = 2) : ∃ a b, l = [a, b] := by
  match l, h with
  | [a, b], _ => exact ⟨a, b, rfl⟩
theorem right5 {g : Gl} (h : g.op = 5) (hr : rightG g = true) : ∃ a b, g.ts = [a, b] := by
  unfold rightG at hr
  rw [if_neg (by omega)] at hr
  simp only [Bool.and_eq_true, decide_eq_true_eq] at hr
  have h2 := hr.1.2
  rw [h] at h2
  have : arityG 5 = 2 := rfl
  rw [this] at h2
  exact two (by omega)
/-! ### counts -/
theorem uses_L1 (k : Int → Option Int) (v : Int) : ∀ (l : List Int) (n : Int), 0 ≤ n → n + l.length ≤ 1000000 → lf_normal_uses_L1 k v l n = k (n + (l.count v : Nat))
  | [], n, _, _ => by rw [lf_normal_uses_L1]; simp
  | x :: l, n, h0, h => by
    rw [List.length_cons] at h
    rw [lf_normal_uses_L1]
    by_cases e : x = v
    · subst e
      rw [beqT rfl, cond_true, wr_eq (by omega), uses_L1 k x l (n + 1) (by omega) (by omega), List.count_cons_self]
      congr 1
      omega
    · rw [beqF e, cond_false, uses_L1 k v l n h0 (by omega), List.count_cons_of_ne e]
theorem uses_L0 (k : Int → Option Int) (v : Int) : ∀ (l : List Gl) (n : Int), 0 ≤ n → n + (occG l).length ≤ 1000000 → lf_normal_uses_L0 k v l n = k (n + ((occG l).count v : Nat))
  | [], n, _, _ => by rw [lf_normal_uses_L0]; simp [occG]
  | g :: l, n, h0, h => by
    rw [occG, List.length_append] at h
    have hc : (occL g.ts).count v ≤ (occL g.ts).length := List.count_le_length
    rw [lf_normal_uses_L0, x_occs, Option.bind_some, uses_L1 _ v _ n h0 (by omega), uses_L0 k v l _ (by omega) (by omega), occG, List.count_append]
    congr 1
    omega
theorem uses_lf (l : List Gl) (v : Int) (h : (occG l).length ≤ 1000000) : lf_normal_uses l v = some ((occG l).count v : Int) := by
  rw [lf_normal_uses, uses_L0 _ v l 0 (by omega) (by omega)]
  simp
theorem joining_L0 (k : List (Int × Int) → Option (Int × Int × Bool)) : ∀ (l : List Int) (mm : List (Int × Int)) (c : Int → Nat), (∀ v, (mget mm v).getD 0 = (c v : Int)) → (∀ v, c v + l.length ≤ 1000000) → mm.length + l.length ≤ 1000000 →
    ∃ mm', lf_normal_joining_L0 k l mm = k mm' ∧ ∀ v, (mget mm' v).getD 0 = ((c v + l.count v : Nat) : Int)
  | [], mm, c, hc, _, _ => ⟨mm, by rw [lf_normal_joining_L0], fun v => by rw [hc]; simp⟩
  | x :: l, mm, c, hc, hb, hm => by
    rw [List.length_cons] at hm
    have hx := hb x
    rw [List.length_cons] at hx
    have e1 : wr ((mget mm x).getD 0 + 1) = ((c x + 1 : Nat) : Int) := by rw [hc, wr_eq (by omega)]; omega
    have hl := mput_len mm x ((c x + 1 : Nat) : Int)
    obtain ⟨mm', h1, h2⟩ := joining_L0 k l (mput mm x ((c x + 1 : Nat) : Int)) (fun v => if x = v then c x + 1 else c v) (fun v => by
      rw [mget_mput]
      by_cases e : x = v
      · rw [if_pos e, if_pos e]; rfl
      · rw [if_neg e, if_neg e]; exact hc v) (fun v => by
      have := hb v
      rw [List.length_cons] at this
      split <;> omega) (by omega)
    refine ⟨mm', ?_, fun v => ?_⟩
    · rw [lf_normal_joining_L0, e1]
      unfold mputO
      rw [if_pos (by omega), Option.bind_some, h1]
    · rw [h2]
      by_cases e : x = v
      · subst e
        rw [if_pos rfl, List.count_cons_self]
        omega
      · rw [if_neg e, List.count_cons_of_ne e]
theorem sub_tail {α : Type} {g : α} {G : List α} : subO (g :: G) 1 ((g :: G).length : Int) = some G := by
  unfold subO
  rw [if_pos (by rw [List.length_cons]; omega)]
  simp
theorem count_pos {v : Int} {l : List Int} : ((l.count v : Nat) : Int) > 0 ↔ v ∈ l := by
  rw [← List.count_pos_iff]
  omega
theorem count_zero {v : Int} {l : List Int} : ((l.count v : Nat) : Int) = 0 ↔ v ∉ l := by
  rw [← List.count_eq_zero]
  omega
/-- What joining tells. -/
def TellsJ (r : Ru) (p : Int × Int × Bool) : Prop := Tells (JO r) p.2.2 ∧ (p.2.2 = true → ∃ g G, r.G = g :: G ∧ p.1 = (prG g).1 ∧ p.2.1 = (prG g).2)
theorem TellsJ.f {r : Ru} {a b : Int} (h : ¬ JO r) : TellsJ r (a, b, false) := ⟨.f h, fun e => by cases e⟩
theorem joining_tot (r : S_api_Rule) (hB : Bd 100000 (toR r)) : TotP (lf_normal_joining r) (TellsJ (toR r)) := by
  have h3 := hB.c
  have h4 := hB.d
  obtain ⟨l, el, ho⟩ := args_lf r hB
  have hl := occH_le hB
  rw [lf_normal_joining]
  obtain ⟨nm, K, R, GG, B, v⟩ := r
  simp only [toR] at *
  cases GG with
  | nil =>
    rw [List.length_nil, beqT (show ((0 : Nat) : Int) = 0 from rfl), cond_true]
    exact .pure (.f fun h => h)
  | cons g G =>
    have hJ : JO ⟨nm, K, R, g :: G, B, v⟩ ↔ jOk g G B (occH ⟨nm, K, R, g :: G, B, v⟩) := Iff.rfl
    rw [beqF (by simp; omega), cond_false, show getI (g :: G) 0 = some g from rfl, Option.bind_some]
    refine .cond (fun e => .pure (.f fun k => ?_)) fun e5 => ?_
    · have := (hJ.1 k).1
      rw [this] at e
      cases e
    have h5 : g.op = 5 := by simpa using e5
    rw [wG] at h3
    rw [x_rightG, if_pos (by omega), Option.bind_some]
    refine .cond (fun e => .pure (.f fun k => ?_)) fun er => ?_
    · rw [(hJ.1 k).2.1] at e
      cases e
    have hr : rightG g = true := by simpa using er
    obtain ⟨a, b, hab⟩ := right5 h5 hr
    have hpr : prG g = (a.i, b.i) := by unfold prG; rw [hab]
    rw [hab, show getI [a, b] 0 = some a from rfl, Option.bind_some]
    refine .cond (fun e => .pure (.f fun k => ?_)) fun ea => ?_
    · obtain ⟨a', b', q1, q2, q3⟩ := (hJ.1 k).2.2.1
      rw [hab] at q1
      obtain ⟨rfl, q4⟩ := List.cons.inj q1
      rw [q2] at e
      cases e
    have hak : a.k = 1 := by simpa using ea
    rw [show getI [a, b] 1 = some b from rfl, Option.bind_some]
    refine .cond (fun e => .pure (.f fun k => ?_)) fun eb => ?_
    · obtain ⟨a', b', q1, q2, q3⟩ := (hJ.1 k).2.2.1
      rw [hab] at q1
      obtain ⟨_, q4⟩ := List.cons.inj q1
      obtain ⟨rfl, _⟩ := List.cons.inj q4
      rw [q3] at e
      cases e
    have hbk : b.k = 1 := by simpa using eb
    rw [el, Option.bind_some, x_occs, Option.bind_some]
    obtain ⟨mm, e1, hc⟩ := joining_L0 (fun mm_17 => (bif (a.i != b.i) then (bif (((mget mm_17 a.i).getD 0) == (1 : Int)) then (bif (decide (((mget mm_17 b.i).getD 0) > (0 : Int))) then ((subO (g :: G) 1 ((g :: G).length : Int)).bind fun l_21 => ((lf_normal_uses l_21 a.i).bind fun r_22 => (bif (r_22 == (0 : Int)) then ((lf_normal_uses B a.i).bind fun r_24 => some (a.i, b.i, (r_24 == (0 : Int)))) else some (a.i, b.i, false)))) else some (a.i, b.i, false)) else some (a.i, b.i, false)) else some (a.i, b.i, false))) (occL l) [] (fun _ => 0) (fun v => rfl) (fun v => by rw [ho]; omega) (by rw [ho]; simp; omega)
    rw [e1]
    simp only [hc, ho, Nat.zero_add]
    refine .cond (fun ex => ?_) fun e => .pure (.f fun k => ?_)
    rotate_left
    · have := (hJ.1 k).2.2.2.1
      rw [hpr] at this
      exact this (by simpa using e)
    refine .cond (fun ec => ?_) fun e => .pure (.f fun k => ?_)
    rotate_left
    · have := (hJ.1 k).2.2.2.2.1
      rw [hpr] at this
      rw [beq_eq_false_iff_ne] at e
      exact e (by dsimp only at this; omega)
    refine .cond (fun ey => ?_) fun e => .pure (.f fun k => ?_)
    rotate_left
    · have := (hJ.1 k).2.2.2.2.2.1
      rw [hpr] at this
      exact of_decide_eq_false e (count_pos.2 this)
    have oG := occG_wt G
    have oB := occG_wt B
    rw [sub_tail, Option.bind_some, uses_lf G a.i (by omega), Option.bind_some]
    refine .cond (fun eG => ?_) fun e => .pure (.f fun k => ?_)
    rotate_left
    · have := (hJ.1 k).2.2.2.2.2.2.1
      rw [hpr] at this
      rw [beq_eq_false_iff_ne] at e
      exact e (count_zero.2 this)
    rw [uses_lf B a.i (by omega), Option.bind_some]
    refine .pure ⟨?_, fun _ => ⟨g, G, rfl, by rw [hpr], by rw [hpr]⟩⟩
    unfold Tells
    rw [hJ, beq_iff_eq, count_zero]
    unfold jOk
    rw [hpr]
    have ec' := beq_iff_eq.1 ec
    have eG' := beq_iff_eq.1 eG
    exact ⟨fun k => ⟨h5, hr, ⟨a, b, hab, hak, hbk⟩, by simpa using ex, by dsimp only; omega, count_pos.1 (of_decide_eq_true ey), count_zero.1 eG', k⟩, fun k => k.2.2.2.2.2.2.2⟩
/-! ### one step -/
def swp (x y v : Int) : Int := if v = x then y else v
theorem ren2_L0 {rec : List T → Int → Int → Option (List T × Int × Int)} (x y : Int) (k : List T → Int → Int → Option (List T × Int × Int)) :
    ∀ (ts done : List T), (∀ q ∈ ts, rec q.ar x y = some (numL (swp x y) q.ar, x, y)) →
    lf_normal_renamed_s2_L0 k rec ts.length (done.length : Int) x y (done ++ ts) = k (done ++ numL (swp x y) ts) x y
  | [], done, _ => by rw [List.length_nil, lf_normal_renamed_s2_L0, numL]
  | q :: ts, done, hr => by
    have step : ∀ t : T, t = numT (swp x y) q → lf_normal_renamed_s2_L0 k rec ts.length ((done.length : Int) + 1) x y ((done ++ q :: ts).set (done.length : Int).toNat t) = k (done ++ numL (swp x y) (q :: ts)) x y := fun t ht => by
      rw [set_mid, show ((done.length : Int) + 1) = ((done ++ [t]).length : Int) by simp, ren2_L0 x y k ts (done ++ [t]) (fun u hu => hr u (List.mem_cons_of_mem _ hu)), numL, ht, List.append_assoc, List.singleton_append]
    rw [List.length_cons, lf_normal_renamed_s2_L0, getI_mid, Option.bind_some]
    refine bif3 (fun h => ?_) (fun h => ?_) (fun h1 h2 => ?_)
    · rw [lf_normal_Join_1_s1]
      by_cases e : q.i = x
      · rw [beqT e, cond_true, Option.bind_some]
        refine step _ ?_
        rw [numT_k1 _ h, swp, if_pos e]
      · rw [beqF e, cond_false, Option.bind_some]
        refine step _ ?_
        rw [numT_k1 _ h, swp, if_neg e]
    · rw [hr q (List.mem_cons_self ..), Option.bind_some]
      refine step _ ?_
      rw [numT_k2 _ h]
    · have e : (done ++ q :: ts) = (done ++ q :: ts).set (done.length : Int).toNat q := by rw [set_mid]; simp
      rw [e]
      refine step _ ?_
      rw [numT_k0 _ h1 h2]
      cases q; rfl
theorem ren2_lf (x y : Int) : ∀ (fuel : Nat) (ts : List T), wtL ts < fuel → wtL ts ≤ 1000000 → lf_normal_renamed_s2 fuel ts x y = some (numL (swp x y) ts, x, y)
  | 0, _, h, _ => absurd h (Nat.not_lt_zero _)
  | fuel + 1, ts, h, hw => by
    have := len_wtL ts
    rw [lf_normal_renamed_s2]
    dsimp only
    rw [appO_le (by omega) (by simp; omega), Option.bind_some, List.nil_append, show ((ts.length : Int) - 0).toNat = ts.length by omega]
    exact ren2_L0 (rec := lf_normal_renamed_s2 fuel) x y (fun a_7 l_8 l_9 => some (a_7, l_8, l_9)) ts [] fun q hq => by
      have h1 := wt_mem hq
      have h2 := wt_eq q
      exact ren2_lf x y fuel q.ar (by omega) (by omega)
theorem heads2_L0 (x y : Int) (fuel : Nat) (k : List At → Int → Int → Option (List At × Int × Int)) : ∀ (ts done : List At), wA ts < fuel → wA ts ≤ 1000000 →
    lf_normal_heads_s2_L0 k fuel ts.length (done.length : Int) x y (done ++ ts) = k (done ++ numA (swp x y) ts) x y
  | [], done, _, _ => by rw [List.length_nil, lf_normal_heads_s2_L0]; rfl
  | q :: ts, done, hf, hw => by
    rw [wA] at hf hw
    rw [List.length_cons, lf_normal_heads_s2_L0, getI_mid, Option.bind_some, ren2_lf x y fuel q.ts (by omega) (by omega), Option.bind_some, set_mid]
    have := heads2_L0 x y fuel k ts (done ++ [⟨q.n, numL (swp x y) q.ts⟩]) (by omega) (by omega)
    rw [List.length_append, List.length_singleton, Int.natCast_add] at this
    refine this.trans ?_
    rw [List.append_assoc]
    rfl
theorem heads2_lf (x y : Int) (fuel : Nat) (ts : List At) (hf : wA ts < fuel) (hw : wA ts ≤ 1000000) : lf_normal_heads_s2 fuel ts x y = some (numA (swp x y) ts, x, y) := by
  have := lenA_wt ts
  rw [lf_normal_heads_s2, appO_le (by omega) (by simp; omega), Option.bind_some, List.nil_append, show ((ts.length : Int) - 0).toNat = ts.length by omega]
  exact heads2_L0 x y fuel (fun a_7 l_8 l_9 => some (a_7, l_8, l_9)) ts [] hf hw
/-- A rule behind one step. -/
def stepR (x y : Int) (r : Ru) : Ru := { setH r (sub1 x y (occH r)) with G := r.G.tail }
theorem stepR_eq (x y : Int) (r : Ru) : stepR x y r = ⟨r.n, numA (swp x y) r.K, numA (swp x y) r.R, r.G.tail, r.B, r.v⟩ := by
  unfold stepR
  have e : sub1 x y (occH r) = (occA r.K).map (swp x y) ++ (occA r.R).map (swp x y) := by
    unfold sub1 occH
    rw [List.map_append]
    rfl
  rw [e, setH_eq r _ _ (List.length_map _), numA_set, numA_set]
theorem occH_step (x y : Int) (r : Ru) : occH (stepR x y r) = sub1 x y (occH r) := by
  have h : (sub1 x y (occH r)).length = (occH r).length := List.length_map _
  exact occH_setH (r := r) h
theorem Bd.step {m : Nat} {r : Ru} (h : Bd m r) (x y : Int) : Bd m (stepR x y r) := by
  have h3 := h.c
  unfold stepR setH
  refine ⟨by rw [wA_set]; exact h.a, by rw [wA_set]; exact h.b, ?_, h.d⟩
  dsimp only
  cases hG : r.G with
  | nil => rw [List.tail_nil]; exact Nat.zero_le _
  | cons g G =>
    rw [hG, wG] at h3
    rw [List.tail_cons]
    omega
theorem jnR_step {r : Ru} {g : Gl} {G : List Gl} (hG : r.G = g :: G) (h : jOk g G r.B (occH r)) : jnR r = jnR (stepR (prG g).1 (prG g).2 r) := by
  have h1 : (sub1 (prG g).1 (prG g).2 (occH r)).length = (occH r).length := List.length_map _
  have e : (stepR (prG g).1 (prG g).2 r).G = G := by unfold stepR; rw [hG]; rfl
  have eB : (stepR (prG g).1 (prG g).2 r).B = r.B := rfl
  unfold jnR
  rw [occH_step, e, eB, hG, jnG, if_pos h]
  have hs : ∀ m : List Int, setH (stepR (prG g).1 (prG g).2 r) m = { setH r m with G := G } := fun m => by
    have := setH_set (r := r) m h1
    unfold stepR
    rw [hG]
    show { setH (setH r (sub1 (prG g).1 (prG g).2 (occH r))) m with G := G } = _
    rw [this]
  rw [hs]
theorem jnR_stop {r : Ru} (h : ¬ JO r) : jnR r = r := by
  unfold jnR
  have : jnG r.B r.G (occH r) = (occH r, r.G) := by
    unfold JO at h
    cases hG : r.G with
    | nil => rfl
    | cons g G =>
      rw [hG] at h
      rw [jnG, if_neg h]
  rw [this]
  dsimp only
  rw [setH_self]
theorem jn_bd {m : Nat} : ∀ (n : Nat) (r : Ru), r.G.length = n → Bd m r → Bd m (jnR r) := by
  intro n
  induction n with
  | zero =>
    intro r hn hB
    rw [jnR_stop (fun h => by unfold JO at h; rw [List.eq_nil_of_length_eq_zero hn] at h; exact h)]
    exact hB
  | succ n ih =>
    intro r hn hB
    by_cases h : JO r
    · cases hG : r.G with
      | nil => rw [hG] at hn; cases hn
      | cons g G =>
        have h' := h
        unfold JO at h'
        rw [hG] at h'
        rw [jnR_step hG h']
        refine ih _ ?_ (hB.step _ _)
        unfold stepR
        rw [hG] at hn ⊢
        simpa using hn
    · rw [jnR_stop h]
      exact hB
theorem join_L0 (fuel : Nat) (hf : 100000 < fuel) (k : S_api_Rule → Option S_api_Rule) : ∀ (n : Nat) (r : S_api_Rule) (p : Int × Int × Bool), r.f3_Guard.length < n → Bd 100000 (toR r) → TellsJ (toR r) p → lf_normal_Join_L0 k fuel n p.2.2 r p.1 p.2.1 = k (ofR (jnR (toR r))) := by
  intro n
  induction n with
  | zero => intro r p h; omega
  | succ n ih =>
    intro r p hn hB hT
    obtain ⟨x, y, b⟩ := p
    rw [lf_normal_Join_L0]
    cases b with
    | false =>
      rw [cond_false, jnR_stop (fun h => by have := hT.1.2 h; cases this)]
      rfl
    | true =>
      have hJ := hT.1.1 rfl
      obtain ⟨g, G, hG, hx, hy⟩ := hT.2 rfl
      dsimp only at hx hy
      have h1 := hB.a
      have h2 := hB.b
      simp only [toR] at h1 h2 hG
      rw [cond_true, heads2_lf x y fuel _ (by omega) (by omega), Option.bind_some]
      dsimp only
      rw [heads2_lf x y fuel _ (by omega) (by omega), Option.bind_some, hG, sub_tail, Option.bind_some]
      have es : stepR x y (toR r) = ⟨r.f0_Name, numA (swp x y) r.f1_Keep, numA (swp x y) r.f2_Remove, G, r.f4_Body, r.f5_Vars⟩ := by
        rw [stepR_eq]
        simp only [toR, hG, List.tail_cons]
      have hB' : Bd 100000 (toR ⟨r.f0_Name, numA (swp x y) r.f1_Keep, numA (swp x y) r.f2_Remove, G, r.f4_Body, r.f5_Vars⟩) := by
        have := hB.step x y
        rw [es] at this
        exact this
      obtain ⟨p', e, hT'⟩ := joining_tot _ hB'
      rw [e, Option.bind_some]
      have := ih _ p' (by rw [hG, List.length_cons] at hn; dsimp only; omega) hB' hT'
      rw [this]
      congr 2
      have hj : jOk g G (toR r).B (occH (toR r)) := by
        unfold JO at hJ
        rw [show (toR r).G = g :: G from hG] at hJ
        exact hJ
      rw [jnR_step (r := toR r) hG hj, ← hx, ← hy, es]
      rfl
theorem join_lf (fuel : Nat) (r : S_api_Rule) (hB : Bd 100000 (toR r)) (hf : 200000 < fuel) : lf_normal_Join fuel r = some (ofR (joinR (toR r))) := by
  obtain ⟨b, e, hb⟩ := numbered_tot fuel r hB (by omega)
  rw [lf_normal_Join, e, Option.bind_some]
  unfold joinR
  cases b with
  | false =>
    rw [Bool.not_false, cond_true, if_neg (fun h => by have := hb.2 h; cases this)]
    rfl
  | true =>
    have h3 := hB.c
    have h3l := lenG_wt r.f3_Guard
    simp only [toR] at h3
    obtain ⟨p, ep, hp⟩ := joining_tot r hB
    rw [Bool.not_true, cond_false, ep, Option.bind_some, if_pos (hb.1 rfl), join_L0 fuel (by omega) _ fuel r p (by omega) hB hp]
    have := number_lf fuel (ofR (jnR (toR r))) (by rw [toR_ofR]; exact jn_bd _ _ rfl hB) (by omega)
    rw [this]
    rfl
end Go.Proofs.YtlannippingfdaaGreat


namespace Go.Proofs.YtlannippingfdaaGreat
set_option maxRecDepth 100000
open Go.RowKit

theorem cleanA_num (ρ : Int → Int) {xs ys : List At} (h : cleanA xs = cleanA ys) : cleanA (numA ρ xs) = cleanA (numA ρ ys) := by
  have ho : occA xs = occA ys := by rw [← occA_clean xs, h, occA_clean]
  rw [numA_set, numA_set, cleanA_set, cleanA_set, h, ho]
theorem put_L0 {rec : List T → Int → Int → Option (List T)} (x y : Int) (k : List T → Option (List T)) :
    ∀ (ts out : List T), (∀ q ∈ ts, ∃ us, rec q.ar x y = some us ∧ cleanL us = cleanL (numL (swp x y) q.ar) ∧ wtL us ≤ wtL q.ar) → out.length + ts.length ≤ 1000000 →
    ∃ us, lf_constraintref17_put_L0 k rec x y ts out = k (out ++ us) ∧ cleanL us = cleanL (numL (swp x y) ts) ∧ wtL us ≤ wtL ts
  | [], out, _, _ => ⟨[], by rw [lf_constraintref17_put_L0, List.append_nil], rfl, Nat.le_refl _⟩
  | q :: ts, out, hr, hl => by
    rw [List.length_cons] at hl
    have step : ∀ t : T, clean t = clean (numT (swp x y) q) → wt t ≤ wt q → ∃ us, ((appO 56 out [t]).bind fun l => lf_constraintref17_put_L0 k rec x y ts l) = k (out ++ us) ∧ cleanL us = cleanL (numL (swp x y) (q :: ts)) ∧ wtL us ≤ wtL (q :: ts) := fun t ht hw => by
      obtain ⟨us, e1, e2, e3⟩ := put_L0 x y k ts (out ++ [t]) (fun u hu => hr u (List.mem_cons_of_mem _ hu)) (by rw [List.length_append, List.length_singleton]; omega)
      refine ⟨t :: us, ?_, ?_, by rw [wtL, wtL]; omega⟩
      · rw [appO1 (by omega) hl, Option.bind_some, e1, List.append_assoc, List.singleton_append]
      · rw [numL]
        exact cleanL_cons ht e2
    rw [lf_constraintref17_put_L0]
    rcases kind3 q.k with h | h | ⟨h1, h2⟩
    · rw [beqT h, cond_true]
      by_cases e : q.i = x
      · rw [beqT e, cond_true, lf_constraintref03_Var, Option.bind_some]
        simp only [T.k, T.i, T.s, T.ar]
        rw [beqF (show (1 : Int) ≠ 2 by omega), cond_false]
        refine step _ ?_ (by rw [wt_eq, wt_eq]; simp [T.ar, wtL])
        rw [numT_k1 _ h, swp, if_pos e]
        exact clean_k1 h _
      · rw [beqF e, cond_false, beqF (by omega), cond_false]
        refine step _ ?_ (by rw [wt_eq, wt_eq]; exact Nat.le_refl _)
        rw [numT_k1 _ h, swp, if_neg e]
    · rw [beqF (by omega), cond_false, beqT h, cond_true]
      obtain ⟨us, e1, e2, e3⟩ := hr q (List.mem_cons_self ..)
      rw [e1, Option.bind_some]
      refine step (.mk q.k q.i q.s us) ?_ (by have h8 := wt_eq q; have h9 : wt (T.mk q.k q.i q.s us) = 1 + wtL us := (by rw [wt]); omega)
      rw [numT_k2 _ h, h, clean_fun, clean_fun, e2]
    · rw [beqF h1, cond_false, beqF h2, cond_false]
      refine step _ ?_ (by rw [wt_eq, wt_eq]; exact Nat.le_refl _)
      rw [numT_k0 _ h1 h2]
theorem put_lf (x y : Int) : ∀ (fuel : Nat) (ts : List T), wtL ts < fuel → wtL ts ≤ 1000000 → ∃ us, lf_constraintref17_put fuel ts x y = some us ∧ cleanL us = cleanL (numL (swp x y) ts) ∧ wtL us ≤ wtL ts
  | 0, _, h, _ => absurd h (Nat.not_lt_zero _)
  | fuel + 1, ts, h, hw => by
    have := len_wtL ts
    rw [lf_constraintref17_put]
    dsimp only
    exact put_L0 (rec := lf_constraintref17_put fuel) x y (fun out_7 => some out_7) ts [] (fun q hq => by
      have h1 := wt_mem hq
      have h2 := wt_eq q
      exact put_lf x y fuel q.ar (by omega) (by omega)) (by simp; omega)
theorem putA_L0 (x y : Int) (fuel : Nat) (k : List At → Option (List At)) : ∀ (ts out : List At), wA ts < fuel → wA ts ≤ 1000000 → out.length + ts.length ≤ 1000000 →
    ∃ us, lf_constraintref17_putAtoms_L0 k fuel x y ts out = k (out ++ us) ∧ cleanA us = cleanA (numA (swp x y) ts) ∧ wA us ≤ wA ts
  | [], out, _, _, _ => ⟨[], by rw [lf_constraintref17_putAtoms_L0, List.append_nil], rfl, Nat.le_refl _⟩
  | q :: ts, out, hf, hw, hl => by
    rw [List.length_cons] at hl
    rw [wA] at hf hw
    obtain ⟨vs, e1, e2, w1⟩ := put_lf x y fuel q.ts (by omega) (by omega)
    obtain ⟨us, e3, e4, w2⟩ := putA_L0 x y fuel k ts (out ++ [⟨q.n, vs⟩]) (by omega) (by omega) (by rw [List.length_append, List.length_singleton]; omega)
    refine ⟨⟨q.n, vs⟩ :: us, ?_, ?_, by rw [wA, wA]; dsimp only; omega⟩
    · rw [lf_constraintref17_putAtoms_L0, e1, Option.bind_some, appO1 (by omega) hl, Option.bind_some, e3, List.append_assoc, List.singleton_append]
    · show cleanA _ = cleanA (⟨q.n, numL (swp x y) q.ts⟩ :: numA (swp x y) ts)
      rw [cleanA, cleanA, e2, e4]
theorem putA_lf (x y : Int) (fuel : Nat) (ts : List At) (hf : wA ts < fuel) (hw : wA ts ≤ 1000000) : ∃ us, lf_constraintref17_putAtoms fuel ts x y = some us ∧ cleanA us = cleanA (numA (swp x y) ts) ∧ wA us ≤ wA ts := by
  have := lenA_wt ts
  exact putA_L0 x y fuel (fun out_7 => some out_7) ts [] hf hw (by simp; omega)
/-! ### joining -/
theorem inGoals_L0 (fuel : Nat) (v : Int) : ∀ l : List Gl, wG l < fuel → wG l ≤ 1000000 → lf_constraintref17_inGoals_L0 (some false) fuel v l = some (decide (v ∈ occG l))
  | [], _, _ => by rw [lf_constraintref17_inGoals_L0]; rfl
  | g :: l, hf, hw => by
    rw [wG] at hf hw
    rw [lf_constraintref17_inGoals_L0, lf_constraintref03_GoalVars, varsOf_lf fuel g.ts (by omega) (by omega), Option.bind_some, Option.bind_some, rhas_lf, Option.bind_some, inGoals_L0 fuel v l (by omega) (by omega)]
    have hm : v ∈ uniq [] (occL g.ts) ↔ v ∈ occL g.ts := by rw [mem_uniq]; simp
    rw [occG]
    by_cases h : v ∈ occL g.ts
    · rw [decide_eq_true (hm.2 h), cond_true, decide_eq_true (List.mem_append.2 (.inl h))]
    · rw [decide_eq_false fun e => h (hm.1 e), cond_false]
      congr 1
      rw [decide_eq_decide, List.mem_append]
      exact ⟨.inr, fun e => e.resolve_left h⟩
theorem inGoals_lf (fuel : Nat) (v : Int) (l : List Gl) (hf : wG l < fuel) (hw : wG l ≤ 1000000) : lf_constraintref17_inGoals fuel l v = some (decide (v ∈ occG l)) := inGoals_L0 fuel v l hf hw
theorem rjoining_L0 (k : Int → Option Bool) (q : T) : ∀ (l : List Int) (n : Int), 0 ≤ n → n + l.length ≤ 1000000 → lf_constraintref17_joining_L0 k q l n = k (n + (l.count q.i : Nat))
  | [], n, _, _ => by rw [lf_constraintref17_joining_L0]; simp
  | x :: l, n, h0, h => by
    rw [List.length_cons] at h
    rw [lf_constraintref17_joining_L0]
    by_cases e : x = q.i
    · rw [beqT e, cond_true, wr_eq (by omega), rjoining_L0 k q l (n + 1) (by omega) (by omega), e, List.count_cons_self]
      congr 1
      omega
    · rw [beqF e, cond_false, rjoining_L0 k q l n h0 (by omega), List.count_cons_of_ne e]
theorem rjoining_tot (fuel : Nat) (r : S_api_Rule) (hB : Bd 100000 (toR r)) (hf : 200000 < fuel) : TotP (lf_constraintref17_joining fuel r) (Tells (JO (toR r))) := by
  have h3 := hB.c
  have h4 := hB.d
  have eh := inHeads_lf fuel r hB hf
  have hl := occH_le hB
  rw [lf_constraintref17_joining]
  obtain ⟨nm, K, R, GG, B, v⟩ := r
  simp only [toR] at *
  cases GG with
  | nil =>
    rw [List.length_nil, beqT (show ((0 : Nat) : Int) = 0 from rfl), cond_true]
    exact .pure (.f fun h => h)
  | cons g G =>
    have hJ : JO ⟨nm, K, R, g :: G, B, v⟩ ↔ jOk g G B (occH ⟨nm, K, R, g :: G, B, v⟩) := Iff.rfl
    rw [beqF (by simp; omega), cond_false, show getI (g :: G) 0 = some g from rfl, Option.bind_some]
    refine .cond (fun e => .pure (.f fun k => ?_)) fun e5 => ?_
    · have := (hJ.1 k).1
      rw [this] at e
      cases e
    have h5 : g.op = 5 := by simpa using e5
    rw [wG] at h3
    rw [x_rightG, if_pos (by omega), Option.bind_some]
    refine .cond (fun e => .pure (.f fun k => ?_)) fun er => ?_
    · rw [(hJ.1 k).2.1] at e
      cases e
    have hr : rightG g = true := by simpa using er
    obtain ⟨a, b, hab⟩ := right5 h5 hr
    have hpr : prG g = (a.i, b.i) := by unfold prG; rw [hab]
    rw [hab, show getI [a, b] 0 = some a from rfl, Option.bind_some, show getI [a, b] 1 = some b from rfl, Option.bind_some]
    refine .cond (fun e => .pure (.f fun k => ?_)) fun ea => ?_
    · obtain ⟨a', b', q1, q2, q3⟩ := (hJ.1 k).2.2.1
      rw [hab] at q1
      obtain ⟨rfl, q4⟩ := List.cons.inj q1
      rw [q2] at e
      cases e
    have hak : a.k = 1 := by simpa using ea
    refine .cond (fun e => .pure (.f fun k => ?_)) fun eb => ?_
    · obtain ⟨a', b', q1, q2, q3⟩ := (hJ.1 k).2.2.1
      rw [hab] at q1
      obtain ⟨_, q4⟩ := List.cons.inj q1
      obtain ⟨rfl, _⟩ := List.cons.inj q4
      rw [q3] at e
      cases e
    have hbk : b.k = 1 := by simpa using eb
    refine .cond (fun e => .pure (.f fun k => ?_)) fun ex => ?_
    · have := (hJ.1 k).2.2.2.1
      rw [hpr] at this
      exact this (by simpa using e)
    rw [eh, Option.bind_some, rjoining_L0 _ a _ 0 (by omega) (by omega), Int.zero_add]
    refine .cond (fun ec => ?_) fun e => .pure (.f fun k => ?_)
    rotate_left
    · have := (hJ.1 k).2.2.2.2.1
      rw [hpr] at this
      rw [beq_eq_false_iff_ne] at e
      exact e (by dsimp only at this; omega)
    rw [rhas_lf, Option.bind_some]
    refine .cond (fun ey => ?_) fun e => .pure (.f fun k => ?_)
    rotate_left
    · have := (hJ.1 k).2.2.2.2.2.1
      rw [hpr] at this
      exact of_decide_eq_false e this
    rw [sub_tail, Option.bind_some, inGoals_lf fuel a.i G (by omega) (by omega), Option.bind_some]
    refine .cond (fun eG => ?_) fun e => .pure (.f fun k => ?_)
    rotate_left
    · have := (hJ.1 k).2.2.2.2.2.2.1
      rw [hpr] at this
      rw [decide_eq_false this] at e
      cases e
    rw [inGoals_lf fuel a.i B (by omega) (by omega), Option.bind_some]
    refine .pure ?_
    unfold Tells
    rw [hJ]
    unfold jOk
    rw [hpr]
    have ec' := beq_iff_eq.1 ec
    have eG' : a.i ∉ occG G := by simpa using eG
    have ex' : a.i ≠ b.i := by simpa using ex
    constructor
    · intro k
      exact ⟨h5, hr, ⟨a, b, hab, hak, hbk⟩, ex', by dsimp only; omega, of_decide_eq_true ey, eG', by simpa using k⟩
    · intro k
      simpa using k.2.2.2.2.2.2.2
/-- Equal but for what the heads do not use. -/
structure Eh (a b : Ru) : Prop where
  n : a.n = b.n
  K : cleanA a.K = cleanA b.K
  R : cleanA a.R = cleanA b.R
  G : a.G = b.G
  B : a.B = b.B
  v : a.v = b.v
theorem Eh.occ {a b : Ru} (h : Eh a b) : occH a = occH b := by
  unfold occH
  rw [← occA_clean a.K, ← occA_clean a.R, h.K, h.R, occA_clean, occA_clean]
theorem Eh.jo {a b : Ru} (h : Eh a b) : JO a ↔ JO b := by
  unfold JO
  rw [h.G, h.B, h.occ]
theorem Eh.sm {a b : Ru} (h : Eh a b) : Sm a b := (sm_iff _ _).2 ⟨h.n, h.K, h.R, by rw [h.G], by rw [h.B], h.v⟩
theorem rjoin_L0 (fuel : Nat) (hf : 200000 < fuel) (k : S_api_Rule → Option S_api_Rule) : ∀ (n : Nat) (r' : S_api_Rule) (r : Ru), r'.f3_Guard.length < n → Bd 100000 (toR r') → Eh r (toR r') → ∃ z, lf_constraintref17_Join_L0 k fuel n r' = k z ∧ Sm (jnR r) (toR z) ∧ Bd 100000 (toR z) := by
  intro n
  induction n with
  | zero => intro r' r h; omega
  | succ n ih =>
    intro r' r hn hB hE
    obtain ⟨b, e, hb⟩ := rjoining_tot fuel r' hB hf
    rw [lf_constraintref17_Join_L0, e, Option.bind_some]
    cases b with
    | false =>
      rw [cond_false, jnR_stop (fun h => by have := hb.2 (hE.jo.1 h); cases this)]
      exact ⟨r', rfl, hE.sm, hB⟩
    | true =>
      have hJ' := hb.1 rfl
      have hJ := hE.jo.2 hJ'
      have h1 := hB.a
      have h2 := hB.b
      have h3 := hB.c
      have h4 := hB.d
      cases hG : r'.f3_Guard with
      | nil =>
        unfold JO at hJ'
        rw [show (toR r').G = [] from hG] at hJ'
        exact hJ'.elim
      | cons g G =>
        have hGr : r.G = g :: G := hE.G.trans hG
        have hj : jOk g G r.B (occH r) := by
          unfold JO at hJ
          rw [hGr] at hJ
          exact hJ
        obtain ⟨a, b, hab, _, _⟩ := hj.2.2.1
        have hpr : prG g = (a.i, b.i) := by unfold prG; rw [hab]
        simp only [toR] at h1 h2 h3 h4
        rw [hG, wG] at h3
        rw [cond_true, show getI (g :: G) 0 = some g from rfl, Option.bind_some, hab, show getI [a, b] 0 = some a from rfl, Option.bind_some, show getI [a, b] 1 = some b from rfl, Option.bind_some]
        obtain ⟨us, e1, c1, w1⟩ := putA_lf a.i b.i fuel r'.f1_Keep (by omega) (by omega)
        obtain ⟨vs, e2, c2, w2⟩ := putA_lf a.i b.i fuel r'.f2_Remove (by omega) (by omega)
        rw [e1, Option.bind_some, e2, Option.bind_some, sub_tail, Option.bind_some]
        have hE' : Eh (stepR a.i b.i r) (toR ⟨r'.f0_Name, us, vs, G, r'.f4_Body, r'.f5_Vars⟩) := by
          rw [stepR_eq]
          exact ⟨hE.n, (cleanA_num _ hE.K).trans c1.symm, (cleanA_num _ hE.R).trans c2.symm, by rw [hGr]; rfl, hE.B, hE.v⟩
        have hB' : Bd 100000 (toR ⟨r'.f0_Name, us, vs, G, r'.f4_Body, r'.f5_Vars⟩) := ⟨by dsimp only [toR]; omega, by dsimp only [toR]; omega, by dsimp only [toR]; omega, h4⟩
        have := ih _ _ (by rw [hG, List.length_cons] at hn; dsimp only; omega) hB' hE'
        rw [jnR_step hGr hj, hpr]
        exact this
theorem rjoin_tot (fuel : Nat) (r : S_api_Rule) (hB : Bd 100000 (toR r)) (hf : 400000 < fuel) : TotP (lf_constraintref17_Join fuel r) fun z => Sm (joinR (toR r)) (toR z) := by
  obtain ⟨b, e, hb⟩ := rnumbered_tot fuel r hB hf
  rw [lf_constraintref17_Join, e, Option.bind_some]
  unfold joinR
  cases b with
  | false =>
    rw [Bool.not_false, cond_true, if_neg (fun h => by have := hb.2 h; cases this)]
    exact .pure rfl
  | true =>
    have h3 := hB.c
    have h3l := lenG_wt r.f3_Guard
    simp only [toR] at h3
    rw [Bool.not_true, cond_false, if_pos (hb.1 rfl)]
    obtain ⟨z, e1, e2, e3⟩ := rjoin_L0 fuel (by omega) (fun r_6 => ((lf_constraintref14_Number fuel r_6).bind fun r_7 => some (r_7))) fuel r (toR r) (by omega) hB ⟨rfl, rfl, rfl, rfl, rfl, rfl⟩
    rw [e1, rnumber_lf fuel z e3 hf, Option.bind_some]
    exact .pure e2.nb
end Go.Proofs.YtlannippingfdaaGreat


namespace Go.Proofs.YtlannippingfdaaGreat
set_option maxRecDepth 100000
open Go.RowKit

theorem example17 : lf_constraintlaw17_exampleHolds 500000 = some true := by
  kernel_rfl
/-! ### weights -/
def NmA (l : List At) : Prop := ∀ a ∈ l, a.n.size ≤ 9223372036854775807
def NmG (l : List Gl) : Prop := ∀ a ∈ l, a.n.size ≤ 9223372036854775807
theorem wr_step (m : Int) (s : Nat) (h1 : 0 ≤ m) (h2 : m ≤ 1000) (hs : s ≤ 9223372036854775807) : wr ((wr (m - 1)) - (wr (Int.tdiv (s : Int) 8))) = m - 1 - ((s / 8 : Nat) : Int) := by
  have e : Int.tdiv (s : Int) 8 = ((s / 8 : Nat) : Int) := by
    rw [Int.tdiv_eq_ediv_of_nonneg (by omega)]
    rfl
  rw [e, wr_eq (n := m - 1) (by omega), wr_eq (n := ((s / 8 : Nat) : Int)) (by omega), wr_eq (by omega)]
theorem x_weigh_eq (ts : List T) (m : Int) (h1 : -9223372036854775808 ≤ m) (h2 : m ≤ 1000) : x_weigh ts m 64 = some (weighF 64 ts m) := by
  rw [x_weigh, if_pos ⟨⟨h1, by omega⟩, by omega, by omega⟩]
  rfl
theorem ga_lf (k : Int → Option Bool) : ∀ (l : List At) (m : Int), m ≤ 1000 → NmA l → ∃ r, lf_constraintref03_GreatAtoms_L0 k l m = k r ∧ (0 ≤ r → (wA l : Int) + r ≤ m)
  | [], m, _, _ => ⟨m, by rw [lf_constraintref03_GreatAtoms_L0], fun _ => by simp [wA]⟩
  | a :: l, m, hm, hn => by
    rw [lf_constraintref03_GreatAtoms_L0]
    by_cases h : m ≥ 0
    · have hs := hn a (List.mem_cons_self ..)
      rw [decide_eq_true h, cond_true, wr_step m _ h hm hs, x_weigh_eq _ _ (by omega) (by omega), Option.bind_some]
      have h1 := weighF_ge 64 a.ts (m - 1 - ((a.n.size / 8 : Nat) : Int))
      have h2 := weigh_wt 64 a.ts (m - 1 - ((a.n.size / 8 : Nat) : Int))
      obtain ⟨r, e1, e2⟩ := ga_lf k l (weighF 64 a.ts (m - 1 - ((a.n.size / 8 : Nat) : Int))) (by omega) fun x hx => hn x (List.mem_cons_of_mem _ hx)
      refine ⟨r, e1, fun hr => ?_⟩
      have := e2 hr
      simp only [wA]
      omega
    · rw [decide_eq_false h, cond_false]
      exact ⟨m, rfl, fun hr => absurd hr h⟩
theorem gg_lf (k : Int → Option Bool) : ∀ (l : List Gl) (m : Int), m ≤ 1000 → NmG l → ∃ r, lf_constraintref03_GreatGoals_L0 k l m = k r ∧ (0 ≤ r → (wG l : Int) + r ≤ m)
  | [], m, _, _ => ⟨m, by rw [lf_constraintref03_GreatGoals_L0], fun _ => by simp [wG]⟩
  | a :: l, m, hm, hn => by
    rw [lf_constraintref03_GreatGoals_L0]
    by_cases h : m ≥ 0
    · have hs := hn a (List.mem_cons_self ..)
      rw [decide_eq_true h, cond_true, wr_step m _ h hm hs, x_weigh_eq _ _ (by omega) (by omega), Option.bind_some]
      have h1 := weighF_ge 64 a.ts (m - 1 - ((a.n.size / 8 : Nat) : Int))
      have h2 := weigh_wt 64 a.ts (m - 1 - ((a.n.size / 8 : Nat) : Int))
      obtain ⟨r, e1, e2⟩ := gg_lf k l (weighF 64 a.ts (m - 1 - ((a.n.size / 8 : Nat) : Int))) (by omega) fun x hx => hn x (List.mem_cons_of_mem _ hx)
      refine ⟨r, e1, fun hr => ?_⟩
      have := e2 hr
      simp only [wG]
      omega
    · rw [decide_eq_false h, cond_false]
      exact ⟨m, rfl, fun hr => absurd hr h⟩
theorem greatA_lf (l : List At) (m : Int) (hm : m ≤ 1000) (hn : NmA l) : TotP (lf_constraintref03_GreatAtoms l m) fun b => b = false → (wA l : Int) ≤ m := by
  unfold lf_constraintref03_GreatAtoms
  obtain ⟨r, e1, e2⟩ := ga_lf (fun m => some (decide (m < 0))) l m hm hn
  rw [e1]
  refine ⟨_, rfl, fun h => ?_⟩
  have := of_decide_eq_false h
  have := e2 (by omega)
  omega
theorem greatG_lf (l : List Gl) (m : Int) (hm : m ≤ 1000) (hn : NmG l) : TotP (lf_constraintref03_GreatGoals l m) fun b => b = false → (wG l : Int) ≤ m := by
  unfold lf_constraintref03_GreatGoals
  obtain ⟨r, e1, e2⟩ := gg_lf (fun m => some (decide (m < 0))) l m hm hn
  rw [e1]
  refine ⟨_, rfl, fun h => ?_⟩
  have := of_decide_eq_false h
  have := e2 (by omega)
  omega
structure Nm (r : S_api_Rule) : Prop where
  a : NmA r.f1_Keep
  b : NmA r.f2_Remove
  c : NmG r.f3_Guard
  d : NmG r.f4_Body
theorem large_tot (r : S_api_Rule) (h : Nm r) : TotP (lf_constraintlaw17_large r) fun b => b = false → Bd 1000 (toR r) := by
  rw [lf_constraintlaw17_large, lf_constraintref03_GreatRules, lf_constraintref03_GreatRules_L0]
  refine .bind (R := fun b => b = false → Bd 1000 (toR r)) ?_ fun b hb => .pure hb
  refine .cond (fun _ => .pure fun h => by cases h) fun _ => ?_
  refine .cond (fun _ => .pure fun h => by cases h) fun _ => ?_
  refine .bind (greatA_lf _ 120 (by omega) h.a) fun x hx => .cond (fun _ => .pure fun h => by cases h) fun h1 => ?_
  refine .bind (greatA_lf _ 120 (by omega) h.b) fun y hy => .cond (fun _ => .pure fun h => by cases h) fun h2 => ?_
  refine .bind (greatG_lf _ 120 (by omega) h.c) fun z hz => .cond (fun _ => .pure fun h => by cases h) fun h3 => ?_
  refine .bind (greatG_lf _ 120 (by omega) h.d) fun u hu => .cond (fun _ => .pure fun h => by cases h) fun h4 => ?_
  have := hx h1
  have := hy h2
  have := hz h3
  have := hu h4
  rw [lf_constraintref03_GreatRules_L0]
  exact .pure fun _ => ⟨by dsimp only [toR]; omega, by dsimp only [toR]; omega, by dsimp only [toR]; omega, by dsimp only [toR]; omega⟩
/-! ### names are strings of the machine -/
theorem reps_in {p : Addr → Prop} {w : World} : ∀ {ds : List D} {cs : List Value}, Reps p w ds cs → ∀ d ∈ ds, ∃ v, Rep p w d v
  | [], _, _, _, h => by cases h
  | x :: ds, cs, h, d, hd => by
    simp only [Reps] at h
    obtain ⟨v, rest, _, h1, h2⟩ := h
    exact (List.mem_cons.1 hd).elim (fun e => e ▸ ⟨v, h1⟩) (reps_in h2 d)
theorem agg_mem {p : Addr → Prop} {w : World} {fs : List D} {v : Value} (h : Rep p w (.agg fs) v) (d : D) (hd : d ∈ fs) : ∃ v, Rep p w d v := by
  simp only [Rep] at h
  obtain ⟨cs, _, h, _⟩ := h
  exact reps_in h d hd
theorem lst_mem {α : Type} {f : α → D} {p : Addr → Prop} {w : World} {l : List α} {v : Value} (h : Rep p w (.lst (l.map f)) v) (a : α) (ha : a ∈ l) : ∃ v, Rep p w (f a) v := by
  simp only [Rep] at h
  obtain ⟨A, c, xs, _, _, _, _, h, _⟩ := h
  exact reps_in h _ (List.mem_map.2 ⟨a, ha, rfl⟩)
theorem str_le {p : Addr → Prop} {w : World} {s : ByteArray} {v : Value} (h : Rep p w (.str s) v) : s.size ≤ 9223372036854775807 := by
  simp only [Rep] at h
  exact h.2
theorem nmA_of {p : Addr → Prop} {w : World} {l : List At} {v : Value} (h : Rep p w (.lst (l.map encA)) v) : NmA l := fun a ha => by
  obtain ⟨v, h⟩ := lst_mem h a ha
  obtain ⟨v, h⟩ := agg_mem h (.str a.n) (by simp)
  exact str_le h
theorem nmG_of {p : Addr → Prop} {w : World} {l : List Gl} {v : Value} (h : Rep p w (.lst (l.map encG)) v) : NmG l := fun a ha => by
  obtain ⟨v, h⟩ := lst_mem h a ha
  obtain ⟨v, h⟩ := agg_mem h (.str a.n) (by simp)
  exact str_le h
theorem nm_of {p : Addr → Prop} {w : World} {r : S_api_Rule} {v : Value} (h : Rep p w (enc_S_api_Rule r) v) : Nm r := by
  obtain ⟨_, h1⟩ := agg_mem h (.lst (r.f1_Keep.map encA)) (by simp)
  obtain ⟨_, h2⟩ := agg_mem h (.lst (r.f2_Remove.map encA)) (by simp)
  obtain ⟨_, h3⟩ := agg_mem h (.lst (r.f3_Guard.map encG)) (by simp)
  obtain ⟨_, h4⟩ := agg_mem h (.lst (r.f4_Body.map encG)) (by simp)
  exact ⟨nmA_of h1, nmA_of h2, nmG_of h3, nmG_of h4⟩
theorem Tells.eq {p : Prop} {a b : Bool} (h : Tells p a) (k : Tells p b) : a = b := by
  unfold Tells at h k
  cases a <;> cases b <;> simp_all
theorem Bd.lin {r : Ru} (h : Bd 1000 r) : Bd 7000 (linR r) := by
  unfold linR
  split
  · exact (h.pre.mono (by omega)).nb
  · exact h.mono (by omega)
theorem Bd.join {m : Nat} {r : Ru} (h : Bd m r) : Bd m (joinR r) := by
  unfold joinR
  split
  · exact (jn_bd _ _ rfl h).nb
  · exact h
theorem forms_lf (r : S_api_Rule) (hn : Nm r) : lf_constraintlaw17_NormalForms 500000 r = some true := by
  rw [lf_constraintlaw17_NormalForms, example17]
  obtain ⟨b, e, hb⟩ := large_tot r hn
  rw [e, Option.bind_some]
  cases b with
  | true => rfl
  | false =>
    have hB := hb rfl
    obtain ⟨r5, e5, h5⟩ := rlinear_tot 500000 r hB (by omega)
    rw [cond_false, linear_lf 500000 r hB (by omega), Option.bind_some, e5, Option.bind_some]
    obtain ⟨r6, e6, h6⟩ := sameRule_tot (ofR (linR (toR r))) r5 (by rw [toR_ofR]; exact hB.lin.mono (by omega))
    rw [e6, Option.bind_some, h6.2 h5, cond_true]
    obtain ⟨r8, e8, h8⟩ := isLinear_tot r (hB.mono (by omega))
    obtain ⟨r9, e9, h9⟩ := risLinear_tot 500000 r (hB.mono (by omega)) (by omega)
    rw [e8, Option.bind_some, e9, Option.bind_some, h8.eq h9, beq_self_eq_true, cond_true]
    obtain ⟨r12, e12, h12⟩ := rjoin_tot 500000 r (hB.mono (by omega)) (by omega)
    rw [join_lf 500000 r (hB.mono (by omega)) (by omega), Option.bind_some, e12, Option.bind_some]
    obtain ⟨r13, e13, h13⟩ := sameRule_tot (ofR (joinR (toR r))) r12 (by rw [toR_ofR]; exact hB.join.mono (by omega))
    rw [e13, Option.bind_some, h13.2 h12, cond_true]
    rfl
theorem gives_NormalForms (r : S_api_Rule) : Gives Tryz.prog 3 [enc_S_api_Rule r] (.bool true) := fun w p vs hi hv => by
  have hv' := hv
  simp only [Repl] at hv'
  obtain ⟨v, _, _, h, _⟩ := hv'
  exact lg_constraintlaw17_NormalForms 500000 r true (forms_lf r (nm_of h)) w p vs hi hv
end Go.Proofs.YtlannippingfdaaGreat


namespace Go.Proofs.YtlannippingfdaaGreat
set_option maxRecDepth 100000
open Go.ChangeShapes Go.WideShapes Go.ChangeAt Go.RowKit

/-- Every cell that there is. -/
def live (w : World) (a : Addr) : Prop := ∃ v, w.cell? a = some v
theorem live_grow {w w' : World} (e : Ext w w') : Grow (live w) w (live w') w' := fun _ ⟨v, hv⟩ => ⟨⟨v, e.cellOf hv⟩, by rw [hv]; exact e.cellOf hv⟩
/-- A datum of a type, opened. -/
def Op (t : TypeId) (n : Nat) (S : D → Prop) : Prop := ∀ (H : Type) (enc : TypeId × Value → H) (W : World) (base : Nat) (sp : Nat → Bool) (hd : Bool) (fuel : Nat) (cs : List Value) (x : DataW H × List MemPlace),
  DataW.trod enc Tryz.prog W base sp hd fuel t cs = some x → ∃ d v, S d ∧ d.plain = true ∧ sz d = n ∧ Rep (live W) W d v ∧ cs = v.cells.toList
theorem Op.to {t : TypeId} {n : Nat} {S S' : D → Prop} (h : Op t n S) (k : ∀ d, S d → S' d) : Op t n S' := fun H enc W base sp hd fuel cs x hx => by
  obtain ⟨d, v, h1, h2⟩ := h H enc W base sp hd fuel cs x hx
  exact ⟨d, v, k d h1, h2⟩
theorem op_i64 {t : TypeId} (ht : (Tryz.prog).underlying t = some (.int .i64)) : Op t 1 fun d => ∃ n, d = .int .i64 n := fun H enc W base sp hd fuel cs x hx => by
  obtain ⟨k, rfl, _, w0⟩ := DataW.trod_int ht hx
  have := i64_of w0
  refine ⟨.int .i64 k, .int .i64 k, ⟨k, rfl⟩, rfl, rfl, ?_, by simp [Value.cells]⟩
  simp only [Rep]
  exact ⟨trivial, wrap64 (by unfold I64 at this; omega)⟩
theorem op_str {t : TypeId} (ht : (Tryz.prog).underlying t = some .string) : Op t 1 fun d => ∃ s, d = .str s := fun H enc W base sp hd fuel cs x hx => by
  obtain ⟨s, rfl, _, w0⟩ := DataW.trod_string ht hx
  refine ⟨.str s, .string s, ⟨s, rfl⟩, rfl, rfl, ?_, by simp [Value.cells]⟩
  simp only [Rep]
  exact ⟨trivial, by unfold maxLen at w0; omega⟩
/-- One predicate a field. -/
def Fits : List (D → Prop) → List D → Prop
  | [], [] => True
  | S :: ss, d :: ds => S d ∧ Fits ss ds
  | _, _ => False
/-- Fields, one behind the other, from an offset to the end. -/
def tight (P : Program) : Nat → List Field → Bool
  | _, [] => true
  | o, f :: fs => f.offset == o && tight P (o + P.cellsOf f.type) fs
theorem reps_ones {p : Addr → Prop} {w : World} : ∀ {ds : List D} {cs : List Value}, Reps p w ds cs → (∀ d ∈ ds, d.plain = true) → ∀ u ∈ cs, u.oneCell' = true
  | [], cs, h, _, u, hu => by simp only [Reps] at h; subst h; simp at hu
  | d :: ds, cs, h, hp, u, hu => by
    simp only [Reps] at h
    obtain ⟨v, rest, rfl, h1, h2⟩ := h
    rcases List.mem_append.1 hu with hu | hu
    · exact h1.one (hp d (List.mem_cons_self ..)) u hu
    · exact reps_ones h2 (fun e he => hp e (List.mem_cons_of_mem _ he)) u hu
def total (P : Program) : List Field → Nat
  | [] => 0
  | f :: fs => P.cellsOf f.type + total P fs
def Ops : List Field → List (D → Prop) → Prop
  | [], [] => True
  | f :: fs, S :: ss => Op f.type ((Tryz.prog).cellsOf f.type) S ∧ Ops fs ss
  | _, _ => False
theorem fields_open {H : Type} {enc : TypeId × Value → H} {W : World} {base : Nat} {sp : Nat → Bool} {hd : Bool} {n : Nat} {cs : List Value} :
    ∀ (fs : List Field) (ss : List (D → Prop)) (o : Nat), Ops fs ss → tight Tryz.prog o fs = true → o + total Tryz.prog fs = cs.length →
      (∀ (i : Nat) (f : Field), fs[i]? = some f → ∃ x, DataW.trod enc Tryz.prog W base sp hd n f.type ((cs.drop f.offset).take ((Tryz.prog).cellsOf f.type)) = some x) →
      ∃ ds, Fits ss ds ∧ (∀ d ∈ ds, d.plain = true) ∧ szs ds = total Tryz.prog fs ∧ Reps (live W) W ds (cs.drop o)
  | [], [], o, _, _, hl, _ => ⟨[], trivial, by simp, rfl, by simp only [total] at hl; rw [List.drop_eq_nil_of_le (by omega)]; exact Reps.nil _ _⟩
  | f :: fs, S :: ss, o, hop, ht, hl, hx => by
    simp only [tight, Bool.and_eq_true, beq_iff_eq] at ht
    simp only [total] at hl
    obtain ⟨ds, h1, h2, h3, h4⟩ := fields_open fs ss (o + (Tryz.prog).cellsOf f.type) hop.2 ht.2 (by omega) fun i g hg => hx (i + 1) g hg
    obtain ⟨x, h5⟩ := hx 0 f rfl
    rw [ht.1] at h5
    obtain ⟨d, v, g1, g2, g3, g4, g5⟩ := hop.1 H enc W base sp hd n _ x h5
    refine ⟨d :: ds, ⟨g1, h1⟩, ?_, by simp only [szs, total, g3, h3], ?_⟩
    · intro e he
      rcases List.mem_cons.1 he with rfl | he
      · exact g2
      · exact h2 e he
    · have := Reps.cons g4 h4
      rw [← g5, ← List.drop_drop, List.take_append_drop] at this
      exact this
  | [], _ :: _, _, h, _, _, _ => h.elim
  | _ :: _, [], _, h, _, _, _ => h.elim
theorem op_struct {t : TypeId} {fs : Array Field} {n : Nat} (ht : (Tryz.prog).underlying t = some (.struct fs)) (ss : List (D → Prop)) (hs : Ops fs.toList ss) (h1 : tight Tryz.prog 0 fs.toList = true) (h2 : total Tryz.prog fs.toList = n) (h3 : (Tryz.prog).cellsOf t = n) :
    Op t n fun d => ∃ ds, d = .agg ds ∧ Fits ss ds := fun H enc W base sp hd fuel cs x hx => by
  obtain ⟨xs, m, _, _, hl, hlen, hf⟩ := DataW.trod_struct ht hx
  obtain ⟨ds, g1, g2, g3, g4⟩ := fields_open (enc := enc) (W := W) (base := base) (sp := sp) (hd := hd) (n := m) (cs := cs) fs.toList ss 0 hs h1 (by omega) fun i f hi => by
    have hi' : fs[i]? = some f := by simpa using hi
    have hlt : i < xs.length := by
      have := (Array.getElem?_eq_some_iff.1 hi').1
      omega
    exact ⟨xs[i], by rw [hf i f hi', List.getElem?_eq_getElem hlt]⟩
  refine ⟨.agg ds, .agg cs.toArray, ⟨ds, rfl, g1⟩, rfl, by simp only [sz]; omega, ?_, by simp [Value.cells]⟩
  simp only [Rep]
  rw [List.drop_zero] at g4
  exact ⟨cs, rfl, g4, reps_ones g4 g2⟩
/-- Data of one size as a layout. -/
def layD (n : Nat) (hn : 0 < n) (S : D → Prop) : Lay D where
  C := fun w d cs => S d ∧ d.plain = true ∧ sz d = n ∧ ∃ v, Rep (live w) w d v ∧ cs = v.cells.toList
  n := n
  pos := hn
  ext := fun ⟨h1, h2, h3, v, h4, h5⟩ e => ⟨h1, h2, h3, v, h4.grow (live_grow e), h5⟩
  len := fun ⟨_, _, h3, v, h4, h5⟩ => by rw [h5, ← h3, ← h4.sz]; simp
  one := fun ⟨_, h2, _, v, h4, h5⟩ u hu => by subst h5; exact h4.one h2 u hu
theorem layD_ls {n : Nat} {hn : 0 < n} {S : D → Prop} {w : World} : ∀ {l : List D} {xs : List Value}, (layD n hn S).Ls w l xs → (∀ d ∈ l, S d ∧ d.plain = true) ∧ Reps (live w) w l xs
  | [], xs, h => by
    have h : xs = [] := h
    subst h
    exact ⟨by simp, Reps.nil _ _⟩
  | d :: l, xs, ⟨cs, ys, h1, ⟨g1, g2, _, v, g4, g5⟩, h3⟩ => by
    obtain ⟨k1, k2⟩ := layD_ls h3
    subst h1 g5
    refine ⟨?_, Reps.cons g4 k2⟩
    intro e he
    rcases List.mem_cons.1 he with rfl | he
    · exact ⟨g1, g2⟩
    · exact k1 e he
theorem rd_live {w : World} {A : Option Addr} {xs : List Value} (h : Rd w A xs) : RdP (live w) w A xs := by
  rcases h with h | ⟨ad, rfl, hc⟩
  · exact .inl h
  · by_cases he : xs = []
    · exact .inl he
    · have hlen : 0 < xs.length := List.length_pos_iff.2 he
      have hsp : ad.spot = none := by
        have := cell_spot (hc 0 _ (List.getElem?_eq_getElem hlen))
        simpa [Addr.add] using this
      obtain ⟨b, o, sp⟩ := ad
      simp only at hsp
      subst hsp
      refine .inr ⟨b, o, rfl, fun j u hu => ?_⟩
      have h1 : w.cell? ⟨b, o + j, none⟩ = some u := by have := hc j u hu; rwa [add_flat] at this
      exact ⟨⟨u, h1⟩, h1⟩
theorem op_slice {t e : TypeId} {n : Nat} {S : D → Prop} (ht : (Tryz.prog).underlying t = some (.slice e)) (hn : (Tryz.prog).cellsOf e = n) (hp : 0 < n) (he : Op e n S) : Op t 1 fun d => ∃ l, d = .lst l ∧ ∀ x ∈ l, S x := fun H enc W base sp hd fuel cs x hx => by
  obtain ⟨l, v, rfl, h1⟩ := Lay.open_sl (L := layD n hp S) ht hn (fun m cs x _ h => by
    obtain ⟨d, v, g1, g2, g3, g4, g5⟩ := he H enc W base sp hd m cs x h
    exact ⟨d, g1, g2, g3, v, g4, g5⟩) hx
  obtain ⟨A, c, xs, rfl, h2, h3, h4, h5⟩ := h1
  obtain ⟨h6, h7⟩ := layD_ls h5
  refine ⟨.lst l, .slice A l.length c, ⟨l, rfl, fun d hd => (h6 d hd).1⟩, rfl, rfl, ?_, by simp [Value.cells]⟩
  simp only [Rep]
  exact ⟨A, c, xs, rfl, h2, h3, rd_live h4, h7, reps_ones h7 fun d hd => (h6 d hd).2⟩
/-- A list of data that all show something is the list of what they show. -/
theorem list_img {α : Type} {f : α → D} : ∀ {l : List D}, (∀ x ∈ l, ∃ a, x = f a) → ∃ av : List α, l = av.map f
  | [], _ => ⟨[], rfl⟩
  | d :: l, h => by
    obtain ⟨a, rfl⟩ := h d (List.mem_cons_self ..)
    obtain ⟨av, rfl⟩ := list_img fun x hx => h x (List.mem_cons_of_mem _ hx)
    exact ⟨a :: av, rfl⟩
theorem op_list {α : Type} {f : α → D} {t e : TypeId} {n : Nat} (ht : (Tryz.prog).underlying t = some (.slice e)) (hn : (Tryz.prog).cellsOf e = n) (hp : 0 < n) (he : Op e n fun d => ∃ a, d = f a) : Op t 1 fun d => ∃ av : List α, d = .lst (av.map f) :=
  (op_slice ht hn hp he).to fun d ⟨l, hl, h⟩ => by
    obtain ⟨av, rfl⟩ := list_img h
    exact ⟨av, hl⟩

/-! ### terms -/
mutual
theorem rep_ct {w : World} : ∀ {t : T} {cs : List Value}, CT w t cs → Reps (live w) w (fsT t) cs
  | .mk k i s ar, cs, h => by
    simp only [CT] at h
    obtain ⟨A, c, xs, rfl, ⟨h1, h2, h3, h4, h5⟩, h6, h7⟩ := h
    have g := rep_cl h7
    simp only [fsT, Reps, Rep]
    refine ⟨.int .i64 k, _, by simp [Value.cells]; rfl, ⟨rfl, wrap64 (by unfold I64 at h1; omega)⟩, .int .i64 i, _, by simp [Value.cells]; rfl, ⟨rfl, wrap64 (by unfold I64 at h2; omega)⟩, .string s, _, by simp [Value.cells]; rfl, ⟨rfl, h3⟩, .slice A ar.length c, _, by simp [Value.cells], ⟨A, c, xs, ?_, ?_, h5, rd_live h6, g, reps_ones g ?_⟩, rfl⟩
    · rw [encTs_eq]; simp
    · rw [encTs_eq]; simpa using h4
    · rw [encTs_eq]
      intro d hd
      obtain ⟨t, _, rfl⟩ := List.mem_map.1 hd
      rfl
theorem rep_cl {w : World} : ∀ {ts : List T} {xs : List Value}, CL w ts xs → Reps (live w) w (encTs ts) xs
  | [], xs, h => by
    simp only [CL] at h
    subst h
    simp only [encTs, Reps]
  | t :: ts, xs, h => by
    simp only [CL] at h
    obtain ⟨cs, ys, rfl, h1, h2⟩ := h
    have g := rep_ct h1
    simp only [encTs, Reps]
    refine ⟨.agg cs.toArray, ys, by simp [Value.cells], ?_, rep_cl h2⟩
    simp only [Rep]
    exact ⟨cs, rfl, g, reps_ones g fun d hd => by
      rw [fsT_eq] at hd
      simp only [List.mem_cons, List.not_mem_nil, or_false] at hd
      rcases hd with rfl | rfl | rfl | rfl <;> rfl⟩
end
theorem op_term : Op 42 4 fun d => ∃ t, d = encT t := fun H enc W base sp hd fuel cs x hx => by
  obtain ⟨t, ht⟩ := open_termF fuel cs x hx
  have g := rep_ct ht
  refine ⟨encT t, .agg cs.toArray, ⟨t, rfl⟩, rfl, sz_encT t, ?_, by simp [Value.cells]⟩
  simp only [Rep]
  exact ⟨cs, rfl, g, reps_ones g fun d hd => by
    rw [fsT_eq] at hd
    simp only [List.mem_cons, List.not_mem_nil, or_false] at hd
    rcases hd with rfl | rfl | rfl | rfl <;> rfl⟩
theorem op_terms : Op 34 1 fun d => ∃ l : List T, d = .lst (l.map encT) := op_list Tryz.underlying34 cells_term (by omega) op_term
theorem op_goal : Op 40 3 fun d => ∃ g, d = encG g :=
  (op_struct Tryz.underlying40 [fun d => ∃ n, d = .int .i64 n, fun d => ∃ s, d = .str s, fun d => ∃ l : List T, d = .lst (l.map encT)] ⟨op_i64 Tryz.underlying3, op_str Tryz.underlying9, op_terms, trivial⟩ (by kernel_rfl) (by kernel_rfl) cells_goal).to fun d ⟨ds, hd, h⟩ => by
    match ds, h with
    | [_, _, _], ⟨⟨n, rfl⟩, ⟨s, rfl⟩, ⟨l, rfl⟩, _⟩ => exact ⟨⟨n, s, l⟩, hd⟩
/-! ### a law's arguments -/
/-- The value has the shape of its data. -/
def Cl (t : TypeId) (S : D → Prop) : Prop := ∀ (W : World) (b : Nat) (v : Value), Value.okWide Tryz.prog W .any b t v → ∀ d, S d → v = reval d v.cells.toList
theorem Cl.to {t : TypeId} {S S' : D → Prop} (h : Cl t S') (k : ∀ d, S d → S' d) : Cl t S := fun W b v hv d hd => h W b v hv d (k d hd)
theorem cl_struct {t : TypeId} {fs : Array Field} (ht : (Tryz.prog).underlying t = some (.struct fs)) : Cl t fun d => ∃ ds, d = .agg ds := fun W b v hv d ⟨ds, hd⟩ => by
  obtain ⟨cs, rfl, _⟩ := okWide_struct ht hv
  subst hd
  simp [Value.cells, reval]
theorem cl_slice {t e : TypeId} (ht : (Tryz.prog).underlying t = some (.slice e)) : Cl t fun d => ∃ l, d = .lst l := fun W b v hv d ⟨l, hd⟩ => by
  obtain ⟨a, n, c, rfl⟩ := okWide_slice ht hv
  subst hd
  simp [Value.cells, reval]
structure Arg where
  t : TypeId
  n : Nat
  S : D → Prop
  op : Op t n S
  cl : Cl t S
theorem args_open {H : Type} {enc : TypeId × Value → H} {W : World} {base b : Nat} {sp : Nat → Bool} {hd : Bool} : ∀ (av : List Arg) (vs : List Value) (ds : List (DataW H)) (ps : List MemPlace),
    DataW.TrodAll enc Tryz.prog W base sp hd (av.map Arg.t) vs ds ps → (∀ (j : Nat) t v, (av.map Arg.t)[j]? = some t → vs[j]? = some v → Value.okWide Tryz.prog W .any b t v) → ∃ es, Fits (av.map Arg.S) es ∧ Repl (live W) W es vs
  | [], vs, ds, ps, h, _ => by
    obtain ⟨rfl, _, _⟩ := trodAll_nil h
    exact ⟨[], trivial, Repl.nil _ _⟩
  | a :: av, vs, ds, ps, h, hv => by
    obtain ⟨v, vs', d, ds', p, q, rfl, rfl, rfl, ⟨fuel, h1⟩, h2⟩ := trodAll_cons h
    obtain ⟨es, g1, g2⟩ := args_open av vs' ds' q h2 fun j t u ht hu => hv (j + 1) t u ht hu
    obtain ⟨e, u, k1, k2, k3, k4, k5⟩ := a.op H enc W base sp hd fuel _ _ h1
    have e1 := a.cl W b v (hv 0 a.t v rfl rfl) e k1
    have e2 := k4.back
    rw [← k5] at e2
    rw [← e2] at e1
    subst e1
    exact ⟨e :: es, ⟨k1, g1⟩, Repl.cons k4 g2⟩
theorem holds_of {k : FuncId} {F : Func} (av : List Arg) (hp : F.params.toList = av.map Arg.t) (hg : ∀ es, Fits (av.map Arg.S) es → Gives Tryz.prog k es (.bool true)) : Holds k F := by
  intro H enc W base args ds p hval hA
  rw [hp] at hA
  obtain ⟨es, h1, h2⟩ := args_open (b := base) av args.toList ds p hA fun j t v ht hv => hval j t v (by rw [← Array.getElem?_toList, hp]; exact ht) (by simpa using hv)
  have hI : Inv (ctx W (live W) []) (live W) [] W := ⟨by simp, by simp [blks], by simp [blks], fun a ha => ha, Grow.refl _ _, fun a ha => .inl ha, rfl, rfl, rfl, Nat.le_refl _, fun b _ _ => rfl⟩
  refine (hg es h1 W (live W) args.toList hI h2).mono ?_
  rintro e w' (⟨v, d, σ, q, rfl, rfl, hr, hi⟩ | ⟨_, _, _, _, _, hx, _⟩)
  rotate_left
  · exact hx.elim
  simp only [Rep] at hr
  subst hr
  exact Ret.mk rfl ⟨hi.os, hi.tape, hi.output, hi.size, fun b hb => hi.block b hb (by simp [ctx, blks])⟩
end Go.Proofs.YtlannippingfdaaGreat


namespace Go.Proofs.YtlannippingfdaaGreat
set_option maxRecDepth 100000
open Go.ChangeShapes Go.WideShapes Go.ChangeAt Go.RowKit

theorem op_atom : Op 36 2 fun d => ∃ a, d = encA a :=
  (op_struct Tryz.underlying36 [fun d => ∃ s, d = .str s, fun d => ∃ l : List T, d = .lst (l.map encT)] ⟨op_str Tryz.underlying9, op_terms, trivial⟩ (by kernel_rfl) (by kernel_rfl) (by kernel_rfl)).to fun d ⟨ds, hd, h⟩ => by
    match ds, h with
    | [_, _], ⟨⟨s, rfl⟩, ⟨l, rfl⟩, _⟩ => exact ⟨⟨s, l⟩, hd⟩
theorem op_atoms : Op 22 1 fun d => ∃ l : List At, d = .lst (l.map encA) := op_list Tryz.underlying22 (by kernel_rfl) (by omega) op_atom
theorem op_goals : Op 23 1 fun d => ∃ l : List Gl, d = .lst (l.map encG) := op_list Tryz.underlying23 cells_goal (by omega) op_goal
theorem op_rule : Op 25 6 fun d => ∃ r, d = enc_S_api_Rule r :=
  (op_struct Tryz.underlying25 [fun d => ∃ s, d = .str s, fun d => ∃ l : List At, d = .lst (l.map encA), fun d => ∃ l : List At, d = .lst (l.map encA), fun d => ∃ l : List Gl, d = .lst (l.map encG), fun d => ∃ l : List Gl, d = .lst (l.map encG), fun d => ∃ n, d = .int .i64 n] ⟨op_str Tryz.underlying9, op_atoms, op_atoms, op_goals, op_goals, op_i64 Tryz.underlying3, trivial⟩ (by kernel_rfl) (by kernel_rfl) (by kernel_rfl)).to fun d ⟨ds, hd, h⟩ => by
    match ds, h with
    | [_, _, _, _, _, _], ⟨⟨s, rfl⟩, ⟨a, rfl⟩, ⟨b, rfl⟩, ⟨c, rfl⟩, ⟨e, rfl⟩, ⟨n, rfl⟩, _⟩ => exact ⟨⟨s, a, b, c, e, n⟩, hd⟩
def aRule : Arg := ⟨_, _, _, op_rule, (cl_struct Tryz.underlying25).to fun _ ⟨_, h⟩ => ⟨_, h⟩⟩
def aAtoms : Arg := ⟨_, _, _, op_atoms, (cl_slice Tryz.underlying22).to fun _ ⟨_, h⟩ => ⟨_, h⟩⟩
end Go.Proofs.YtlannippingfdaaGreat

