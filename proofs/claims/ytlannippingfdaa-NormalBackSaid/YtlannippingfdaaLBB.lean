/-
  Texts of the seat, merged.
-/
import Derived.Test.YtlannippingfdaaLBA
import Derived.Test.YtlannippingfdaaChecked
import Derived.WalkKit
import Derived.Lib.Hide
import Derived.Lib.AppendStr
import Derived.Deep.AppendLies
import Derived.Deep.AppendSrc
import Derived.Deep.Draws
import Derived.Deep.QuietTactic
import Derived.BigQuiet
import Derived.Deep.RegionWith
import Derived.Maps.AppendAt
import Derived.WalkSpells
import Derived.Deep.Slices
import Derived.Deep.Fields
import Derived.ChangeArms
import Derived.Orders
import Derived.RangeFuncNested
import Derived.RangeFuncBound
import Derived.RangeFuncCalls
import Derived.RangeFuncLeaves
import Derived.Shelf.Abstract
import Derived.OwnWalkIn
import Derived.TacticsInMore
import Derived.LoopNIn
import Derived.LoopIn
import Derived.Lib.OthersKept
import Derived.Lib.TrimU
import Derived.Lib.IndexAny
import Derived.Deep.LoopGhost
import Derived.Lib.Bytealg
import Derived.RangeFuncBox
import Derived.RangeFuncWrites
import Derived.Maps.OwnIn
import Derived.Maps.Views
import Derived.Laws.OwnMore
import Derived.Maps.OwnSet
import Derived.Test.YtlannippingfdaaRows
import Derived.ProofKit
import Derived.OpenShut
import Derived.Carry
import Derived.OrdersIn
import Derived.Great.BuildSlice
set_option linter.unusedVariables false
set_option linter.unusedSimpArgs false
set_option linter.unnecessarySimpa false
set_option linter.all false

namespace Go.Proofs.Ytlannippingfdaa
set_option maxRecDepth 100000
open Go.RowKit

mutual
/-- The term with these numbers in place of its variables, in their order. -/
def setT : T → List Int → T
  | .mk k i s ar, l => if k = 1 then .mk k (l.headD 0) s ar else if k = 2 then .mk k i s (setL ar l) else .mk k i s ar
def setL : List T → List Int → List T
  | [], _ => []
  | t :: ts, l => setT t (l.take (occT t).length) :: setL ts (l.drop (occT t).length)
end
theorem set_var (i : Int) (s : ByteArray) (ar : List T) (l : List Int) : setT (.mk 1 i s ar) l = .mk 1 (l.headD 0) s ar := by rw [setT, if_pos rfl]
theorem set_fun (i : Int) (s : ByteArray) (ar : List T) (l : List Int) : setT (.mk 2 i s ar) l = .mk 2 i s (setL ar l) := by rw [setT, if_neg (by omega), if_pos rfl]
theorem set_oth {k : Int} (h1 : k ≠ 1) (h2 : k ≠ 2) (i : Int) (s : ByteArray) (ar : List T) (l : List Int) : setT (.mk k i s ar) l = .mk k i s ar := by rw [setT, if_neg h1, if_neg h2]
theorem occ_var (i : Int) (s : ByteArray) (ar : List T) : occT (.mk 1 i s ar) = [i] := by rw [occT, if_pos rfl]
theorem occ_fun (i : Int) (s : ByteArray) (ar : List T) : occT (.mk 2 i s ar) = occL ar := by rw [occT, if_neg (by omega), if_pos rfl]
theorem occ_oth {k : Int} (h1 : k ≠ 1) (h2 : k ≠ 2) (i : Int) (s : ByteArray) (ar : List T) : occT (.mk k i s ar) = [] := by rw [occT, if_neg h1, if_neg h2]
theorem clean_var (i : Int) (s : ByteArray) (ar : List T) : clean (.mk 1 i s ar) = .mk 1 i ⟨#[]⟩ [] := by simp [clean]
theorem clean_int (i : Int) (s : ByteArray) (ar : List T) : clean (.mk 0 i s ar) = .mk 0 i ⟨#[]⟩ [] := by simp [clean]
theorem clean_fun (i : Int) (s : ByteArray) (ar : List T) : clean (.mk 2 i s ar) = .mk 2 0 s (cleanL ar) := by simp [clean]
theorem clean_bad {k : Int} (h0 : k ≠ 0) (h1 : k ≠ 1) (h2 : k ≠ 2) (i : Int) (s : ByteArray) (ar : List T) : clean (.mk k i s ar) = .mk k i s [] := by simp [clean, h0, h1, h2]
theorem len1 {α : Type} {l : List α} (h : l.length = 1) (d : α) : [l.headD d] = l := by
  match l, h with
  | [x], _ => rfl
theorem kind3 (k : Int) : k = 1 ∨ k = 2 ∨ (k ≠ 1 ∧ k ≠ 2) := by omega
mutual
theorem occ_set : ∀ (t : T) (l : List Int), l.length = (occT t).length → occT (setT t l) = l
  | .mk k i s ar, l, h => by
    rcases kind3 k with rfl | rfl | ⟨h1, h2⟩
    · rw [occ_var] at h
      rw [set_var, occ_var, len1 h]
    · rw [occ_fun] at h
      rw [set_fun, occ_fun, occL_set ar l h]
    · rw [occ_oth h1 h2] at h
      rw [set_oth h1 h2, occ_oth h1 h2, List.eq_nil_of_length_eq_zero h]
theorem occL_set : ∀ (ts : List T) (l : List Int), l.length = (occL ts).length → occL (setL ts l) = l
  | [], l, h => (List.eq_nil_of_length_eq_zero h).symm
  | t :: ts, l, h => by
    rw [occL, List.length_append] at h
    rw [setL, occL, occ_set t _ (by rw [List.length_take]; omega), occL_set ts _ (by rw [List.length_drop]; omega), List.take_append_drop]
end
mutual
theorem set_self : ∀ t : T, setT t (occT t) = t
  | .mk k i s ar => by
    rcases kind3 k with rfl | rfl | ⟨h1, h2⟩
    · rw [occ_var, set_var]
      rfl
    · rw [occ_fun, set_fun, setL_self ar]
    · rw [set_oth h1 h2]
theorem setL_self : ∀ ts : List T, setL ts (occL ts) = ts
  | [] => rfl
  | t :: ts => by rw [occL, setL, List.take_left, List.drop_left, set_self t, setL_self ts]
end
mutual
theorem set_set : ∀ (t : T) (l m : List Int), l.length = (occT t).length → setT (setT t l) m = setT t m
  | .mk k i s ar, l, m, h => by
    rcases kind3 k with rfl | rfl | ⟨h1, h2⟩
    · rw [set_var, set_var, set_var]
    · rw [occ_fun] at h
      rw [set_fun, set_fun, set_fun, setL_set ar l m h]
    · rw [set_oth h1 h2, set_oth h1 h2]
theorem setL_set : ∀ (ts : List T) (l m : List Int), l.length = (occL ts).length → setL (setL ts l) m = setL ts m
  | [], _, _, _ => rfl
  | t :: ts, l, m, h => by
    rw [occL, List.length_append] at h
    have h1 : (l.take (occT t).length).length = (occT t).length := by rw [List.length_take]; omega
    rw [setL, setL, setL, occ_set t _ h1, h1, set_set t _ _ h1, setL_set ts _ _ (by rw [List.length_drop]; omega)]
end
mutual
theorem num_set (ρ : Int → Int) : ∀ t : T, numT ρ t = setT t ((occT t).map ρ)
  | .mk k i s ar => by
    rcases kind3 k with rfl | rfl | ⟨h1, h2⟩
    · rw [occ_var, set_var, numT, if_pos rfl]
      rfl
    · rw [occ_fun, set_fun, numT, if_neg (by omega), if_pos rfl, numL_set ρ ar]
    · rw [set_oth h1 h2, numT, if_neg h1, if_neg h2]
theorem numL_set (ρ : Int → Int) : ∀ ts : List T, numL ρ ts = setL ts ((occL ts).map ρ)
  | [] => rfl
  | t :: ts => by
    have h : ((occT t).map ρ).length = (occT t).length := List.length_map _
    rw [numL, occL, setL, List.map_append, ← h, List.take_left, List.drop_left, num_set ρ t, numL_set ρ ts]
end
mutual
theorem clean_set : ∀ (t : T) (l : List Int), clean (setT t l) = setT (clean t) l
  | .mk k i s ar, l => by
    rcases kind3 k with rfl | rfl | ⟨h1, h2⟩
    · rw [set_var, clean_var, clean_var, set_var]
    · rw [set_fun, clean_fun, clean_fun, set_fun, cleanL_set ar l]
    · rw [set_oth h1 h2]
      rcases Classical.em (k = 0) with rfl | h0
      · rw [clean_int, set_oth h1 h2]
      · rw [clean_bad h0 h1 h2, set_oth h1 h2]
theorem cleanL_set : ∀ (ts : List T) (l : List Int), cleanL (setL ts l) = setL (cleanL ts) l
  | [], _ => rfl
  | t :: ts, l => by rw [setL, cleanL, cleanL, setL, occ_clean t, clean_set t, cleanL_set ts]
end
/-! ### constraints -/
def occA : List At → List Int
  | [] => []
  | a :: l => occL a.ts ++ occA l
def setA : List At → List Int → List At
  | [], _ => []
  | a :: xs, l => ⟨a.n, setL a.ts (l.take (occL a.ts).length)⟩ :: setA xs (l.drop (occL a.ts).length)
def cleanA : List At → List At
  | [] => []
  | a :: xs => ⟨a.n, cleanL a.ts⟩ :: cleanA xs
theorem occA_set : ∀ (xs : List At) (l : List Int), l.length = (occA xs).length → occA (setA xs l) = l
  | [], l, h => (List.eq_nil_of_length_eq_zero h).symm
  | a :: xs, l, h => by
    rw [occA, List.length_append] at h
    rw [setA, occA, occL_set a.ts _ (by rw [List.length_take]; omega), occA_set xs _ (by rw [List.length_drop]; omega), List.take_append_drop]
theorem setA_self : ∀ xs : List At, setA xs (occA xs) = xs
  | [] => rfl
  | a :: xs => by rw [occA, setA, List.take_left, List.drop_left, setL_self, setA_self xs]
theorem setA_set : ∀ (xs : List At) (l m : List Int), l.length = (occA xs).length → setA (setA xs l) m = setA xs m
  | [], _, _, _ => rfl
  | a :: xs, l, m, h => by
    rw [occA, List.length_append] at h
    have h1 : (l.take (occL a.ts).length).length = (occL a.ts).length := by rw [List.length_take]; omega
    rw [setA, setA, setA, occL_set a.ts _ h1, h1, setL_set a.ts _ _ h1, setA_set xs _ _ (by rw [List.length_drop]; omega)]
theorem occA_clean : ∀ xs : List At, occA (cleanA xs) = occA xs
  | [] => rfl
  | a :: xs => by rw [cleanA, occA, occA, occL_clean, occA_clean xs]
theorem cleanA_set : ∀ (xs : List At) (l : List Int), cleanA (setA xs l) = setA (cleanA xs) l
  | [], _ => rfl
  | a :: xs, l => by rw [setA, cleanA, cleanA, setA, occL_clean, cleanL_set, cleanA_set xs]
/-! ### goals -/
def occG : List Gl → List Int
  | [] => []
  | a :: l => occL a.ts ++ occG l
def setG : List Gl → List Int → List Gl
  | [], _ => []
  | a :: xs, l => ⟨a.op, a.n, setL a.ts (l.take (occL a.ts).length)⟩ :: setG xs (l.drop (occL a.ts).length)
def cleanG : List Gl → List Gl
  | [] => []
  | a :: xs => ⟨a.op, a.n, cleanL a.ts⟩ :: cleanG xs
theorem occG_app : ∀ a b : List Gl, occG (a ++ b) = occG a ++ occG b
  | [], b => rfl
  | x :: a, b => by rw [List.cons_append, occG, occG, occG_app a b, List.append_assoc]
theorem occG_set : ∀ (xs : List Gl) (l : List Int), l.length = (occG xs).length → occG (setG xs l) = l
  | [], l, h => (List.eq_nil_of_length_eq_zero h).symm
  | a :: xs, l, h => by
    rw [occG, List.length_append] at h
    rw [setG, occG, occL_set a.ts _ (by rw [List.length_take]; omega), occG_set xs _ (by rw [List.length_drop]; omega), List.take_append_drop]
theorem setG_self : ∀ xs : List Gl, setG xs (occG xs) = xs
  | [] => rfl
  | a :: xs => by rw [occG, setG, List.take_left, List.drop_left, setL_self, setG_self xs]
theorem setG_set : ∀ (xs : List Gl) (l m : List Int), l.length = (occG xs).length → setG (setG xs l) m = setG xs m
  | [], _, _, _ => rfl
  | a :: xs, l, m, h => by
    rw [occG, List.length_append] at h
    have h1 : (l.take (occL a.ts).length).length = (occL a.ts).length := by rw [List.length_take]; omega
    rw [setG, setG, setG, occL_set a.ts _ h1, h1, setL_set a.ts _ _ h1, setG_set xs _ _ (by rw [List.length_drop]; omega)]
theorem occG_clean : ∀ xs : List Gl, occG (cleanG xs) = occG xs
  | [] => rfl
  | a :: xs => by rw [cleanG, occG, occG, occL_clean, occG_clean xs]
theorem cleanG_set : ∀ (xs : List Gl) (l : List Int), cleanG (setG xs l) = setG (cleanG xs) l
  | [], _ => rfl
  | a :: xs, l => by rw [setG, cleanG, cleanG, setG, occL_clean, cleanL_set, cleanG_set xs]
/-! ### sameness -/
theorem sameA_iff : ∀ {a b : At}, cmpA a b = 0 ↔ a.n = b.n ∧ cleanL a.ts = cleanL b.ts := by
  intro a b
  unfold cmpA
  rw [orI_both, orI_both, cmpS_iff, cmpI_iff]
  constructor
  · rintro ⟨⟨h1, h2⟩, h3⟩
    exact ⟨h1, (cleanL_iff a.ts b.ts (by omega)).1 h3⟩
  · rintro ⟨h1, h2⟩
    have hl : a.ts.length = b.ts.length := by
      have := congrArg List.length h2
      rwa [cleanL_len, cleanL_len] at this
    exact ⟨⟨h1, by omega⟩, (cleanL_iff a.ts b.ts hl).2 h2⟩
theorem sameG_iff : ∀ {a b : Gl}, sameG a b = true ↔ a.op = b.op ∧ a.n = b.n ∧ cleanL a.ts = cleanL b.ts := by
  intro a b
  unfold sameG
  simp only [Bool.and_eq_true, beq_iff_eq]
  constructor
  · rintro ⟨⟨⟨h1, h2⟩, h3⟩, h4⟩
    exact ⟨h1, str_ext h2, (cleanL_iff a.ts b.ts h3).1 h4⟩
  · rintro ⟨h1, h2, h3⟩
    have hl : a.ts.length = b.ts.length := by
      have := congrArg List.length h3
      rwa [cleanL_len, cleanL_len] at this
    exact ⟨⟨⟨h1, by rw [h2]⟩, hl⟩, (cleanL_iff a.ts b.ts hl).2 h3⟩
end Go.Proofs.Ytlannippingfdaa


namespace Go.Proofs.Ytlannippingfdaa
set_option maxRecDepth 100000
open Go.RowKit

/-- A rule: its name, the heads that are kept and removed, guard, body, the number of its variables. -/
structure Ru where
  n : ByteArray
  K : List At
  R : List At
  G : List Gl
  B : List Gl
  v : Int
def wv (r : Ru) (n : Int) : Ru := ⟨r.n, r.K, r.R, r.G, r.B, n⟩
def occH (r : Ru) : List Int := occA r.K ++ occA r.R
def occB (r : Ru) : List Int := occG r.G ++ occG r.B
def occU (r : Ru) : List Int := occH r ++ occB r
def setH (r : Ru) (l : List Int) : Ru := { r with K := setA r.K (l.take (occA r.K).length), R := setA r.R (l.drop (occA r.K).length) }
def setB (r : Ru) (l : List Int) : Ru := { r with G := setG r.G (l.take (occG r.G).length), B := setG r.B (l.drop (occG r.G).length) }
def setU (r : Ru) (l : List Int) : Ru := setB (setH r (l.take (occH r).length)) (l.drop (occH r).length)
def cleanU (r : Ru) : Ru := ⟨r.n, cleanA r.K, cleanA r.R, cleanG r.G, cleanG r.B, r.v⟩
theorem occH_clean (r : Ru) : occH (cleanU r) = occH r := by
  unfold occH cleanU
  rw [occA_clean, occA_clean]
theorem occB_clean (r : Ru) : occB (cleanU r) = occB r := by
  unfold occB cleanU
  rw [occG_clean, occG_clean]
theorem occU_clean (r : Ru) : occU (cleanU r) = occU r := by
  unfold occU
  rw [occH_clean, occB_clean]
theorem occH_setH {r : Ru} {l : List Int} (h : l.length = (occH r).length) : occH (setH r l) = l := by
  unfold occH at h ⊢
  rw [List.length_append] at h
  unfold setH
  dsimp only
  rw [occA_set _ _ (by rw [List.length_take]; omega), occA_set _ _ (by rw [List.length_drop]; omega), List.take_append_drop]
theorem occB_setH (r : Ru) (l : List Int) : occB (setH r l) = occB r := rfl
theorem occH_setB (r : Ru) (l : List Int) : occH (setB r l) = occH r := rfl
theorem occB_setB {r : Ru} {l : List Int} (h : l.length = (occB r).length) : occB (setB r l) = l := by
  unfold occB at h ⊢
  rw [List.length_append] at h
  unfold setB
  dsimp only
  rw [occG_set _ _ (by rw [List.length_take]; omega), occG_set _ _ (by rw [List.length_drop]; omega), List.take_append_drop]
theorem occU_set {r : Ru} {l : List Int} (h : l.length = (occU r).length) : occU (setU r l) = l := by
  unfold occU at h ⊢
  rw [List.length_append] at h
  unfold setU
  rw [occH_setB, occH_setH (by rw [List.length_take]; omega), occB_setB (by rw [List.length_drop, occB_setH]; omega), List.take_append_drop]
theorem setH_self (r : Ru) : setH r (occH r) = r := by
  unfold setH occH
  rw [List.take_left, List.drop_left, setA_self, setA_self]
theorem setB_self (r : Ru) : setB r (occB r) = r := by
  unfold setB occB
  rw [List.take_left, List.drop_left, setG_self, setG_self]
theorem setU_self (r : Ru) : setU r (occU r) = r := by
  unfold setU occU
  rw [List.take_left, List.drop_left, setH_self, setB_self]
theorem setH_set {r : Ru} {l : List Int} (m : List Int) (h : l.length = (occH r).length) : setH (setH r l) m = setH r m := by
  unfold occH at h
  rw [List.length_append] at h
  unfold setH
  dsimp only
  rw [occA_set _ _ (by rw [List.length_take]; omega), setA_set _ _ _ (by rw [List.length_take]; omega), setA_set _ _ _ (by rw [List.length_drop]; omega), List.length_take, Nat.min_eq_left (by omega)]
theorem setB_set {r : Ru} {l : List Int} (m : List Int) (h : l.length = (occB r).length) : setB (setB r l) m = setB r m := by
  unfold occB at h
  rw [List.length_append] at h
  unfold setB
  dsimp only
  rw [occG_set _ _ (by rw [List.length_take]; omega), setG_set _ _ _ (by rw [List.length_take]; omega), setG_set _ _ _ (by rw [List.length_drop]; omega), List.length_take, Nat.min_eq_left (by omega)]
theorem setHB (r : Ru) (l m : List Int) : setH (setB r l) m = setB (setH r m) l := rfl
theorem setU_set {r : Ru} {l : List Int} (m : List Int) (h : l.length = (occU r).length) : setU (setU r l) m = setU r m := by
  unfold occU at h
  rw [List.length_append] at h
  have h1 : (l.take (occH r).length).length = (occH r).length := by rw [List.length_take]; omega
  have h2 : (l.drop (occH r).length).length = (occB r).length := by rw [List.length_drop]; omega
  unfold setU
  rw [occH_setB, occH_setH h1, h1, setHB, setH_set _ h1, setB_set _ (by rw [occB_setH]; exact h2)]
theorem cleanU_setH (r : Ru) (l : List Int) : cleanU (setH r l) = setH (cleanU r) l := by
  unfold setH cleanU
  dsimp only
  rw [occA_clean, cleanA_set, cleanA_set]
theorem cleanU_setB (r : Ru) (l : List Int) : cleanU (setB r l) = setB (cleanU r) l := by
  unfold setB cleanU
  dsimp only
  rw [occG_clean, cleanG_set, cleanG_set]
theorem cleanU_set (r : Ru) (l : List Int) : cleanU (setU r l) = setU (cleanU r) l := by
  unfold setU
  rw [cleanU_setB, cleanU_setH, occH_clean]
/-- Equal but for what is not used. -/
def Sm (a b : Ru) : Prop := cleanU a = cleanU b
theorem Sm.occ {a b : Ru} (h : Sm a b) : occU a = occU b := by rw [← occU_clean a, h, occU_clean]
theorem Sm.occH {a b : Ru} (h : Sm a b) : occH a = occH b := by rw [← occH_clean a, h, occH_clean]
theorem Sm.set {a b : Ru} (h : Sm a b) (l : List Int) : Sm (setU a l) (setU b l) := by
  unfold Sm at h ⊢
  rw [cleanU_set, cleanU_set, h]
theorem Sm.v {a b : Ru} (h : Sm a b) : a.v = b.v := (congrArg Ru.v (show cleanU a = cleanU b from h) : (cleanU a).v = (cleanU b).v)
/-! ### numbers -/
def vsU (r : Ru) : List Int := uniq [] (occU r)
def Nb (r : Ru) : Ru := wv (setU r ((occU r).map (plc (vsU r)))) ((vsU r).length : Int)
theorem occU_v (r : Ru) (n : Int) : occU (wv r n) = occU r := rfl
theorem occU_Nb (r : Ru) : occU (Nb r) = (occU r).map (plc (vsU r)) := by
  unfold Nb
  rw [occU_v, occU_set (List.length_map _)]
theorem vsU_Nb (r : Ru) : vsU (Nb r) = rng (vsU r).length := by
  unfold vsU
  rw [occU_Nb]
  exact uniq_plc _
theorem setU_v (r : Ru) (n : Int) (l : List Int) : setU (wv r n) l = wv (setU r l) n := rfl
theorem map_id_of {l : List Int} {ρ : Int → Int} (h : ∀ x ∈ l, ρ x = x) : l.map ρ = l := by
  induction l with
  | nil => rfl
  | cons x l ih => rw [List.map_cons, h x (by simp), ih fun y hy => h y (by simp [hy])]
theorem mem_vsU {r : Ru} {x : Int} : x ∈ vsU r ↔ x ∈ occU r := by
  unfold vsU
  rw [mem_uniq]
  simp
theorem Nb_Nb (r : Ru) : Nb (Nb r) = Nb r := by
  have h1 : (occU (Nb r)).map (plc (vsU (Nb r))) = occU (Nb r) := map_id_of fun x hx => by
    rw [vsU_Nb]
    refine plc_rng ?_
    rw [← vsU_Nb]
    exact mem_vsU.2 hx
  have h2 : (vsU (Nb r)).length = (vsU r).length := by rw [vsU_Nb, rng_len]
  show wv (setU (Nb r) ((occU (Nb r)).map (plc (vsU (Nb r))))) ((vsU (Nb r)).length : Int) = Nb r
  rw [h1, setU_self, h2]
  rfl
theorem Sm.nb {a b : Ru} (h : Sm a b) : Sm (Nb a) (Nb b) := by
  have e := h.occ
  have h2 := h.set ((occU a).map (plc (vsU a)))
  unfold Sm at h2 ⊢
  unfold Nb
  have hv : vsU a = vsU b := by unfold vsU; rw [e]
  rw [← e, ← hv]
  exact congrArg (fun r : Ru => wv r ((vsU a).length : Int)) h2
theorem plc_map {ρ : Int → Int} {l : List Int} {x : Int} (hx : x ∈ l) (hi : ∀ a ∈ l, ∀ b ∈ l, ρ a = ρ b → a = b) : plc (l.map ρ) (ρ x) = plc l x := by
  rw [plc_in hx, plc_in (List.mem_map_of_mem hx)]
  congr 1
  induction l with
  | nil => cases hx
  | cons a l ih =>
    rw [List.map_cons, List.idxOf_cons, List.idxOf_cons]
    by_cases h : a = x
    · subst h
      simp
    · have h2 : ρ a ≠ ρ x := fun e => h (hi a (by simp) x hx e)
      have h3 : (ρ a == ρ x) = false := by simpa using h2
      have h4 : (a == x) = false := by simpa using h
      rw [h3, h4]
      rcases List.mem_cons.1 hx with rfl | hx
      · exact absurd rfl h
      · rw [cond_false, cond_false, ih hx fun p hp q hq => hi p (by simp [hp]) q (by simp [hq])]
/-- A rule with other names for its variables has the same numbered form. -/
theorem Nb_ren {ρ : Int → Int} {r : Ru} (n : Int) (hi : ∀ a ∈ occU r, ∀ b ∈ occU r, ρ a = ρ b → a = b) : Nb (wv (setU r ((occU r).map ρ)) n) = Nb r := by
  have hl : ((occU r).map ρ).length = (occU r).length := List.length_map _
  have hu : vsU (wv (setU r ((occU r).map ρ)) n) = (vsU r).map ρ := by
    unfold vsU
    rw [occU_v, occU_set hl]
    exact uniq_map (occU r) [] (by simpa using hi)
  unfold Nb
  rw [hu, occU_v, occU_set hl, setU_v, setU_set _ hl, List.length_map, List.map_map]
  show wv (wv _ n) _ = _
  have : (occU r).map (plc ((vsU r).map ρ) ∘ ρ) = (occU r).map (plc (vsU r)) := List.map_congr_left fun x hx => plc_map (mem_vsU.2 hx) fun a ha b hb => hi a (mem_vsU.1 ha) b (mem_vsU.1 hb)
  rw [this]
  rfl
/-- It is numbered. -/
def IsNb (r : Ru) : Prop := Sm (Nb r) r
theorem IsNb.vs {r : Ru} (h : IsNb r) : vsU r = rng (vsU r).length := by
  have e : occU (Nb r) = occU r := Sm.occ h
  have := vsU_Nb r
  unfold vsU at this ⊢
  rwa [e] at this
theorem IsNb.v {r : Ru} (h : IsNb r) : r.v = ((vsU r).length : Int) := (Sm.v h).symm
theorem isNb_Nb (r : Ru) : IsNb (Nb r) := by
  unfold IsNb
  rw [Nb_Nb]
  rfl
end Go.Proofs.Ytlannippingfdaa


namespace Go.Proofs.Ytlannippingfdaa
set_option maxRecDepth 100000
open Go.RowKit

/-- Each further occurrence becomes a new number; the tests: the new number and the old one. -/
def linO : List Int → Int → List Int → List Int × List (Int × Int)
  | _, _, [] => ([], [])
  | s, n, v :: l => if v ∈ s then (n :: (linO s (n + 1) l).1, (n, v) :: (linO s (n + 1) l).2) else (v :: (linO (s ++ [v]) n l).1, (linO (s ++ [v]) n l).2)
theorem lin_in {s : List Int} {n v : Int} {l : List Int} (h : v ∈ s) : linO s n (v :: l) = (n :: (linO s (n + 1) l).1, (n, v) :: (linO s (n + 1) l).2) := by rw [linO, if_pos h]
theorem lin_out {s : List Int} {n v : Int} {l : List Int} (h : v ∉ s) : linO s n (v :: l) = (v :: (linO (s ++ [v]) n l).1, (linO (s ++ [v]) n l).2) := by rw [linO, if_neg h]
theorem lin_len : ∀ (l s : List Int) (n : Int), (linO s n l).1.length = l.length
  | [], _, _ => rfl
  | v :: l, s, n => by
    by_cases h : v ∈ s
    · rw [lin_in h, List.length_cons, List.length_cons, lin_len l]
    · rw [lin_out h, List.length_cons, List.length_cons, lin_len l]
theorem lin_more : ∀ (l s : List Int) (n : Int), (linO s n l).2.length + (uniq s l).length = s.length + l.length
  | [], s, _ => by
    rw [uniq_nil, linO]
    simp
  | v :: l, s, n => by
    by_cases h : v ∈ s
    · have hu : uniq s (v :: l) = uniq s l := by
        show uniq (addU s v) l = _
        rw [addU, if_pos h]
      have := lin_more l s (n + 1)
      rw [lin_in h, hu, List.length_cons, List.length_cons]
      omega
    · have hu : uniq s (v :: l) = uniq (s ++ [v]) l := by
        show uniq (addU s v) l = _
        rw [addU, if_neg h]
      have := lin_more l (s ++ [v]) n
      rw [List.length_append, List.length_singleton] at this
      rw [lin_out h, hu, List.length_cons]
      show (linO (s ++ [v]) n l).2.length + _ = _
      omega
/-- What stands there afterwards: first occurrences and new numbers. -/
theorem lin_mem : ∀ (l s : List Int) (n x : Int), x ∈ (linO s n l).1 → (x ∈ l ∧ x ∉ s) ∨ (n ≤ x ∧ x < n + (linO s n l).2.length)
  | [], _, _, x, h => by cases h
  | v :: l, s, n, x, h => by
    by_cases hv : v ∈ s
    · rw [lin_in hv] at h ⊢
      rw [List.length_cons]
      rcases List.mem_cons.1 h with rfl | h
      · exact .inr ⟨by omega, by omega⟩
      · rcases lin_mem l s (n + 1) x h with ⟨h1, h2⟩ | ⟨h1, h2⟩
        · exact .inl ⟨by simp [h1], h2⟩
        · exact .inr ⟨by omega, by omega⟩
    · rw [lin_out hv] at h ⊢
      rcases List.mem_cons.1 h with rfl | h
      · exact .inl ⟨by simp, hv⟩
      · rcases lin_mem l (s ++ [v]) n x h with ⟨h1, h2⟩ | h1
        · exact .inl ⟨by simp [h1], fun h3 => h2 (by simp [h3])⟩
        · exact .inr h1
theorem lin_first : ∀ (l s : List Int) (n x : Int), x ∈ l → x ∉ s → x ∈ (linO s n l).1
  | [], _, _, x, h, _ => by cases h
  | v :: l, s, n, x, h, hs => by
    by_cases hv : v ∈ s
    · rw [lin_in hv]
      rcases List.mem_cons.1 h with rfl | h
      · exact absurd hv hs
      · exact List.mem_cons_of_mem _ (lin_first l s (n + 1) x h hs)
    · rw [lin_out hv]
      by_cases hx : x = v
      · rw [hx]
        exact List.mem_cons_self
      · rcases List.mem_cons.1 h with h | h
        · exact absurd h hx
        · exact List.mem_cons_of_mem _ (lin_first l (s ++ [v]) n x h fun k => by
            rcases List.mem_append.1 k with k | k
            · exact hs k
            · exact hx (List.mem_singleton.1 k))
theorem lin_new : ∀ (l s : List Int) (n a : Int), n ≤ a → a < n + (linO s n l).2.length → a ∈ (linO s n l).1
  | [], s, n, a, h1, h2 => by
    rw [linO] at h2
    simp at h2
    omega
  | v :: l, s, n, a, h1, h2 => by
    by_cases hv : v ∈ s
    · rw [lin_in hv] at h2 ⊢
      rw [List.length_cons] at h2
      by_cases ha : a = n
      · rw [ha]
        exact List.mem_cons_self
      · exact List.mem_cons_of_mem _ (lin_new l s (n + 1) a (by omega) (by omega))
    · rw [lin_out hv] at h2 ⊢
      exact List.mem_cons_of_mem _ (lin_new l (s ++ [v]) n a h1 h2)
theorem lin_tests : ∀ (l s : List Int) (n : Int) (t : Int × Int), t ∈ (linO s n l).2 → (n ≤ t.1 ∧ t.1 < n + (linO s n l).2.length) ∧ t.2 ∈ l ∧ (t.2 ∈ s ∨ t.2 ∈ (linO s n l).1)
  | [], _, _, t, h => by cases h
  | v :: l, s, n, t, h => by
    by_cases hv : v ∈ s
    · rw [lin_in hv] at h ⊢
      rw [List.length_cons]
      rcases List.mem_cons.1 h with rfl | h
      · exact ⟨⟨by dsimp only; omega, by dsimp only; omega⟩, by simp, .inl hv⟩
      · obtain ⟨h1, h2, h3⟩ := lin_tests l s (n + 1) t h
        exact ⟨⟨by omega, by omega⟩, by simp [h2], h3.imp id fun k => List.mem_cons_of_mem _ k⟩
    · rw [lin_out hv] at h ⊢
      obtain ⟨h1, h2, h3⟩ := lin_tests l (s ++ [v]) n t h
      refine ⟨h1, by simp [h2], ?_⟩
      rcases h3 with h3 | h3
      · rcases List.mem_append.1 h3 with h3 | h3
        · exact .inl h3
        · rw [List.mem_singleton.1 h3]
          exact .inr List.mem_cons_self
      · exact .inr (List.mem_cons_of_mem _ h3)
theorem lin_nodup : ∀ (l s : List Int) (n : Int), (∀ x ∈ l, x < n) → (linO s n l).1.Nodup
  | [], _, _, _ => List.nodup_nil
  | v :: l, s, n, h => by
    by_cases hv : v ∈ s
    · rw [lin_in hv]
      refine List.nodup_cons.2 ⟨fun k => ?_, lin_nodup l s (n + 1) fun x hx => by have := h x (by simp [hx]); omega⟩
      rcases lin_mem l s (n + 1) n k with ⟨k1, _⟩ | ⟨k1, _⟩
      · have := h n (by simp [k1])
        omega
      · omega
    · rw [lin_out hv]
      refine List.nodup_cons.2 ⟨fun k => ?_, lin_nodup l (s ++ [v]) n fun x hx => h x (by simp [hx])⟩
      rcases lin_mem l (s ++ [v]) n v k with ⟨_, k1⟩ | ⟨k1, _⟩
      · exact k1 (by simp)
      · have := h v (by simp)
        omega
/-- A variable becomes another one. -/
def sub1 (a b : Int) (l : List Int) : List Int := l.map fun v => if v = a then b else v
theorem sub1_id {a b : Int} {l : List Int} (h : a ∉ l) : sub1 a b l = l := map_id_of fun x hx => if_neg (c := x = a) fun e => h (e ▸ hx)
theorem sub1_cons (a b x : Int) (l : List Int) : sub1 a b (x :: l) = (if x = a then b else x) :: sub1 a b l := rfl
/-- All tests, the first one first. -/
def subs : List (Int × Int) → List Int → List Int
  | [], l => l
  | t :: ts, l => subs ts (sub1 t.1 t.2 l)
theorem subs_cons : ∀ (ts : List (Int × Int)) (x : Int) (l : List Int), (∀ t ∈ ts, t.1 ≠ x) → subs ts (x :: l) = x :: subs ts l
  | [], _, _, _ => rfl
  | t :: ts, x, l, h => by
    rw [subs, subs, sub1_cons, if_neg fun e => h t (by simp) e.symm, subs_cons ts x _ fun u hu => h u (by simp [hu])]
theorem lin_back : ∀ (l s : List Int) (n : Int), (∀ x ∈ l, x < n) → subs (linO s n l).2 (linO s n l).1 = l
  | [], _, _, _ => rfl
  | v :: l, s, n, h => by
    have hvn := h v (by simp)
    by_cases hv : v ∈ s
    · rw [lin_in hv]
      have hn : n ∉ (linO s (n + 1) l).1 := fun k => by
        rcases lin_mem l s (n + 1) n k with ⟨k1, _⟩ | ⟨k1, _⟩
        · have := h n (by simp [k1])
          omega
        · omega
      show subs (linO s (n + 1) l).2 (sub1 n v (n :: (linO s (n + 1) l).1)) = v :: l
      rw [sub1_cons, if_pos rfl, sub1_id hn, subs_cons _ v _ fun t ht => by
        have := (lin_tests l s (n + 1) t ht).1.1
        omega, lin_back l s (n + 1) fun x hx => by have := h x (by simp [hx]); omega]
    · rw [lin_out hv]
      show subs (linO (s ++ [v]) n l).2 (v :: (linO (s ++ [v]) n l).1) = v :: l
      rw [subs_cons _ v _ fun t ht => by
        have := (lin_tests l (s ++ [v]) n t ht).1.1
        omega, lin_back l (s ++ [v]) n fun x hx => h x (by simp [hx])]
/-- Where no variable occurs twice, nothing is done. -/
theorem lin_none : ∀ (l s : List Int) (n : Int), (linO s n l).2 = [] → (linO s n l).1 = l
  | [], _, _, _ => rfl
  | v :: l, s, n, h => by
    by_cases hv : v ∈ s
    · rw [lin_in hv] at h
      cases h
    · rw [lin_out hv] at h ⊢
      show v :: (linO (s ++ [v]) n l).1 = v :: l
      rw [lin_none l (s ++ [v]) n h]
end Go.Proofs.Ytlannippingfdaa


namespace Go.Proofs.Ytlannippingfdaa
set_option maxRecDepth 100000
open Go.RowKit

/-- Terms that the program cannot tell apart. -/
def Eqv (t u : T) : Prop := cmpT t u = 0
theorem Eqv.rfl' (t : T) : Eqv t t := cmp_self t
theorem Eqv.symm {t u : T} (h : Eqv t u) : Eqv u t := by have := cmp_neg t u; unfold Eqv at *; omega
theorem Eqv.trans {t u v : T} (h : Eqv t u) (k : Eqv u v) : Eqv t v := by
  have := cmp_tri t u v
  unfold Tri Eqv at *
  omega

end Go.Proofs.Ytlannippingfdaa


namespace Go.Proofs.Ytlannippingfdaa
set_option maxRecDepth 100000
open Go.RowKit

/-- The layout of bindings. -/
def layB : Lay (Int × T) where
  C := fun w b cs => ∃ ct, cs = .int .i64 b.1 :: ct ∧ I64 b.1 ∧ CT w b.2 ct
  n := 5
  pos := by omega
  ext := fun ⟨ct, h1, h2, h3⟩ e => ⟨ct, h1, h2, h3.ext e⟩
  len := fun ⟨ct, h1, _, h3⟩ => by rw [h1, List.length_cons, h3.len]
  one := fun ⟨ct, h1, _, h3⟩ u hu => by
    subst h1
    rcases List.mem_cons.1 hu with rfl | hu
    · rfl
    · exact h3.one u hu
theorem CT.open_ {w : World} {t : T} {cs : List Value} (h : CT w t cs) : ∃ sl, cs = [.int .i64 t.k, .int .i64 t.i, .string t.s, sl] ∧ SlT w t.ar sl ∧ I64 t.k ∧ I64 t.i ∧ t.s.size ≤ 9223372036854775807 := by
  obtain ⟨sl, e, h1⟩ := VT.open_ (w := w) (t := t) ⟨cs, rfl, h⟩
  injection e with e
  exact ⟨sl, by simpa using e, h1⟩
theorem VB.open_ {w : World} {p : Int × T} {v : Value} (h : layB.V w p v) : ∃ sl, v = .agg #[.int .i64 p.1, .int .i64 p.2.k, .int .i64 p.2.i, .string p.2.s, sl] ∧ I64 p.1 ∧ SlT w p.2.ar sl ∧ VT w p.2 (.agg #[.int .i64 p.2.k, .int .i64 p.2.i, .string p.2.s, sl]) := by
  obtain ⟨cs, rfl, ct, rfl, hi, hct⟩ := h
  have hvt : VT w p.2 (.agg ct.toArray) := ⟨ct, rfl, hct⟩
  obtain ⟨sl, rfl, hs, -⟩ := hct.open_
  exact ⟨sl, rfl, hi, hs, hvt⟩
theorem VB.mk {w : World} {x : Int} {t : T} {sl : Value} (hx : I64 x) (h : VT w t (.agg #[.int .i64 t.k, .int .i64 t.i, .string t.s, sl])) : layB.V w (x, t) (.agg #[.int .i64 x, .int .i64 t.k, .int .i64 t.i, .string t.s, sl]) :=
  ⟨[.int .i64 x, .int .i64 t.k, .int .i64 t.i, .string t.s, sl], rfl, [.int .i64 t.k, .int .i64 t.i, .string t.s, sl], rfl, hx, by simpa using h.ct⟩

/-! ### rows of a call's own -/
namespace Lay
variable {α : Type} (L : Lay α)
/-- A slice value over a row of the call's own (blocks from base on) that holds such data. -/
def Own (base : Nat) (e : TypeId) (w : World) (l : List α) (v : Value) : Prop := ∃ A c xs, v = .slice A l.length c ∧ w.ownsRow base e L.n (.slice A l.length c) l.length xs ∧ L.Ls w l xs
variable {L}
theorem Own.sl {base : Nat} {e : TypeId} {w : World} {l : List α} {v : Value} (h : L.Own base e w l v) : L.Sl w l v := by
  obtain ⟨A, c, xs, rfl, h1, h2⟩ := h
  refine ⟨A, c, xs, rfl, ?_, ?_, Rd.of_own h1, h2⟩
  · rcases h1.2 with ⟨e1, e2⟩ | ⟨g, cap, cur, hv, _, _, hc, _⟩
    · omega
    · injection hv with _ _ h3; omega
  · rcases h1.2 with ⟨e1, e2⟩ | ⟨g, cap, cur, hv, _, _, _, hm, _⟩
    · injection e1 with _ _ h3; omega
    · injection hv with _ _ h3; unfold maxLen at hm; omega
theorem Own.nil (base : Nat) (e : TypeId) (w : World) : L.Own base e w [] (.slice none 0 0) := ⟨none, 0, [], rfl, World.ownsRow_nil w base e L.n, Ls.nil w⟩
theorem own_extE {w w' : World} {base : Nat} {e : TypeId} {size n : Nat} {v : Value} {xs : List Value} (h : w.ownsRow base e size v n xs) (he : Ext w w') : w'.ownsRow base e size v n xs :=
  h.kept (row := none) ⟨he.os, he.tape, he.output, he.size, fun k hk _ => he.block k hk⟩ (by cases v.ownBlock <;> simp)
theorem Own.ext {base : Nat} {e : TypeId} {w w' : World} {l : List α} {v : Value} (h : L.Own base e w l v) (he : Ext w w') : L.Own base e w' l v := by
  obtain ⟨A, c, xs, rfl, h1, h2⟩ := h
  exact ⟨A, c, xs, rfl, own_extE h1 he, h2.ext he⟩
theorem Own.mono {base base' : Nat} {e : TypeId} {w : World} {l : List α} {v : Value} (h : L.Own base e w l v) (hb : base' ≤ base) : L.Own base' e w l v := by
  obtain ⟨A, c, xs, rfl, h1, h2⟩ := h
  refine ⟨A, c, xs, rfl, ⟨h1.1, ?_⟩, h2⟩
  rcases h1.2 with h3 | ⟨g, cap, cur, hv, hg, h4⟩
  · exact .inl h3
  · exact .inr ⟨g, cap, cur, hv, by omega, h4⟩
end Lay

/-- One datum of a list is replaced. -/
theorem CL.set {w : World} : ∀ {ts : List T} {xs : List Value} {i : Nat} {t : T} {a b c d : Value}, CL w ts xs → i < ts.length → CT w t [a, b, c, d] → CL w (ts.set i t) ((((xs.set (i * 4) a).set (i * 4 + 1) b).set (i * 4 + 2) c).set (i * 4 + 3) d)
  | [], _, i, _, _, _, _, _, _, hi, _ => by simp at hi
  | u :: ts, xs, 0, t, a, b, c, d, h, _, ht => by
    simp only [CL] at h
    obtain ⟨cs, ys, rfl, h2, h3⟩ := h
    have hl := h2.len
    match cs, hl with
    | [p, q, r, s], _ =>
      show CL w (t :: ts) ([a, b, c, d] ++ ys)
      exact CL.cons ht h3
  | u :: ts, xs, i + 1, t, a, b, c, d, h, hi, ht => by
    simp only [CL] at h
    obtain ⟨cs, ys, rfl, h2, h3⟩ := h
    have hl := h2.len
    have ih := CL.set h3 (by simpa using hi) ht
    match cs, hl with
    | [p, q, r, s], _ =>
      have e : (i + 1) * 4 = i * 4 + 4 := by omega
      rw [e]
      show CL w (u :: ts.set i t) ([p, q, r, s] ++ (((ys.set (i * 4) a).set (i * 4 + 1) b).set (i * 4 + 2) c).set (i * 4 + 3) d)
      exact CL.cons h2 ih
end Go.Proofs.Ytlannippingfdaa


namespace Go.Proofs.Ytlannippingfdaa
set_option maxRecDepth 100000
open Go.RowKit

/-! ### vars -/

section
variable {P : Program} {w W : World} {ops : Array Oper} {rest : List Oper} {o : Oper} {a : Act} {Q : Exit → Act → World → Prop}
end
/-- What vars hands back: a row of W0's caller that holds these numbers. -/
def IsInts (W0 : World) (l : List Int) (v : Value) (w : World) : Prop := IsRow W0.heap.size 3 1 l.length (l.map (Value.int .i64)) v w
theorem IsInts.own {W0 : World} {l : List Int} {v : Value} {w : World} (h : IsInts W0 l v w) : ∃ A c, v = .slice A l.length c ∧ w.ownsRow W0.heap.size 3 1 (.slice A l.length c) l.length (l.map (Value.int .i64)) := h
theorem IsInts.rd {W0 : World} {l : List Int} {v : Value} {w : World} (h : IsInts W0 l v w) : RdI l v w := IsRow.rd h
theorem IsInts.nil (W0 w : World) : IsInts W0 [] (.slice none 0 0) w := ⟨none, 0, rfl, by simpa using World.ownsRow_nil w W0.heap.size _ 1⟩
theorem own_ext {w w' : World} {base : Nat} {e : TypeId} {size n : Nat} {v : Value} {xs : List Value} (h : w.ownsRow base e size v n xs) (he : Ext w w') : w'.ownsRow base e size v n xs :=
  h.kept (row := none) ⟨he.os, he.tape, he.output, he.size, fun k hk _ => he.block k hk⟩ (by cases v.ownBlock <;> simp)
theorem IsInts.kept {W0 : World} {l : List Int} {v : Value} {w w' : World} (h : IsInts W0 l v w) (he : Ext w w') : IsInts W0 l v w' := by
  obtain ⟨A, c, rfl, ho⟩ := h
  exact ⟨A, c, rfl, own_ext ho he⟩

end Go.Proofs.Ytlannippingfdaa


namespace Go.Proofs.Ytlannippingfdaa
set_option maxRecDepth 100000
open Go.RowKit

/-- The set holds these numbers. -/
def SeenS (W : World) (b : Nat) (xs : List Int) : Prop := ∃ D : DataW Unit, W.ownsMap Try.prog 3 unitElem b xs.length D ∧ Maps.IsMap D ∧ ∀ x : Int, I64 x → Maps.has D (.int .i64 x) = decide (x ∈ xs)
theorem SeenS.ext {W W' : World} {b : Nat} {xs : List Int} (h : SeenS W b xs) (he : Ext W W') : SeenS W' b xs := by
  obtain ⟨D, h1, h2, h3⟩ := h
  have hlt := h1.lt
  exact ⟨D, h1.kept (row := none) ⟨he.os, he.tape, he.output, he.size, fun k hk _ => he.block k hk⟩ (by simp), h2, h3⟩
theorem SeenS.lt {W : World} {b : Nat} {xs : List Int} (h : SeenS W b xs) : b < W.heap.size := let ⟨_, h1, _⟩ := h; h1.lt
theorem SeenS.put {W : World} {b : Nat} {xs : List Int} {D : DataW Unit} {x : Int} (hx : I64 x) (h2 : Maps.IsMap D) (h3 : ∀ x : Int, I64 x → Maps.has D (.int .i64 x) = decide (x ∈ xs)) (hown : W.ownsMap Try.prog 3 unitElem b (xs.length + 1) (D.put (.int .i64 x) (.agg []))) : SeenS W b (xs ++ [x]) := by
  refine ⟨_, by simpa using hown, h2.put _ _, fun y hy => ?_⟩
  by_cases hxy : y = x
  · subst hxy
    rw [Maps.has_put_same h2 (by simp [WideAt.IsKeyLit])]
    simp
  · rw [Maps.has_put_other (by simp [hxy]), h3 y hy]
    simp [hxy]
end Go.Proofs.Ytlannippingfdaa


namespace Go.Proofs.Ytlannippingfdaa
set_option maxRecDepth 100000
open Go.ChangeShapes Go.WideShapes Go.ChangeAt Go.RowKit

theorem own : ownKnob Try.prog.godebug = none := by kernel_rfl
theorem laid_ : laidOutB Try.prog = true := by kernel_rfl

theorem trodAll_grown {H : Type} {enc : TypeId × Value → H} {P : Program} (hl : laidOutB P = true) {W W' : World} (hb : Ext W W') : ∀ {ts : List TypeId} {vs : List Value} {ds : List (DataW H)} {ps : List MemPlace},
    (∀ t ∈ ts, P.readableRec t = true ∧ t < P.types.size) → (∀ x ∈ ps, x.block < W.heap.size) → DataW.TrodAll enc P W 0 (fun _ => true) true ts vs ds ps → DataW.TrodAll enc P W' 0 (fun b => decide (b < W.heap.size)) true ts vs ds ps
  | [], [], [], _, _, _, h => h
  | t :: ts, v :: vs, d :: ds, ps, ht, hlt, h => by
    obtain ⟨p, q, h1, h2, rfl⟩ := h
    refine ⟨p, q, ?_, ?_, rfl⟩
    · exact Below.trod hl (ht t (List.mem_cons_self)).1 (ht t (List.mem_cons_self)).2 h1 hb fun x hx => hlt x (List.mem_append_left _ hx)
    · exact trodAll_grown hl hb (fun t' h' => ht t' (List.mem_cons_of_mem _ h')) (fun x hx => hlt x (List.mem_append_right _ hx)) h2
  | [], [], _ :: _, _, _, _, h => h.elim
  | [], _ :: _, _, _, _, _, h => h.elim
  | _ :: _, [], _, _, _, _, h => h.elim
  | _ :: _, _ :: _, [], _, _, _, h => h.elim

theorem trodAll_len {H : Type} {enc : TypeId × Value → H} {P : Program} {W : World} {base : Nat} {sp : Nat → Bool} {hd : Bool} : ∀ {ts : List TypeId} {vs : List Value} {ds : List (DataW H)} {ps : List MemPlace}, DataW.TrodAll enc P W base sp hd ts vs ds ps → ds.length = ts.length
  | [], [], [], _, _ => rfl
  | _ :: _, _ :: _, _ :: _, _, h => by
    obtain ⟨_, _, _, h2, _⟩ := h
    simp [trodAll_len h2]
  | [], [], _ :: _, _, h => h.elim
  | [], _ :: _, _, _, h => h.elim
  | _ :: _, [], _, _, h => h.elim
  | _ :: _, _ :: _, [], _, h => h.elim

/-- What a law's function gives for each list of arguments. -/
def Holds (k : FuncId) (F : Func) : Prop := ∀ (H : Type) (enc : TypeId × Value → H) (W : World) (base : Nat) (args : Array Value) (ds : List (DataW H)) (p : List MemPlace),
  (∀ (j : Nat) t v, F.params[j]? = some t → args[j]? = some v → Value.okWide Try.prog W .any base t v) → DataW.TrodAll enc Try.prog W 0 (fun _ => true) true F.params.toList args.toList ds p →
  Calls Try.prog k args W (Ret W (Is (.bool true)))

theorem law_contract {k : FuncId} {F : Func} (h : Holds k F) {s : ChangeSpec} (hv : s.vars = [])
    (hts0 : (F.params.toList.all fun t => (Try.prog).readableRec t && decide (t < (Try.prog).types.size)) = true) (hres : F.resultTypes.toList = [4]) (hrs : F.resultTypes.size = 1)
    (hsp : ∀ (H : Type) (ds : List (DataW H)), ds.length = F.params.toList.length → s.fn H ds = { results := [.lit (.bool true)], args := ds })
    {H : Type} {enc : TypeId × Value → H} (W : World) (base : Nat) (args : Array Value) (ds gs : List (DataW H)) (before : List MemPlace)
    (hval : ∀ (j : Nat) t v, F.params[j]? = some t → args[j]? = some v → Value.okWide Try.prog W .any base t v)
    (hW : DataW.Whole enc Try.prog F.params.toList s.vars false W args.toList ds gs before) :
    Calls Try.prog k args W fun e W' => ∃ v, e = .returned v ∧ s.post enc Try.prog F false true false false W args v W' := by
  have hts : ∀ t ∈ F.params.toList, (Try.prog).readableRec t = true ∧ t < (Try.prog).types.size := fun t ht => by
    have := List.all_eq_true.1 hts0 t ht
    simpa using this
  have hW' := hW
  obtain ⟨p, q, hA, hV, rfl, hfz, hnd⟩ := hW
  rw [hv] at hV
  obtain ⟨rfl, rfl⟩ := trodVars_none hV
  refine (h H enc W base args ds p hval hA).mono ?_
  rintro e W' ⟨v, rfl, hvv, hb⟩
  have hvv : v = .bool true := hvv
  subst hvv
  have hlen := trodAll_len hA
  have hspec := hsp H ds hlen
  refine ⟨_, rfl, ds, [], p ++ [], [], p, [], hW', ?_, ?_, ?_, ?_, fun h => by cases h⟩
  · rw [List.append_nil, hspec, hres, hrs]
    exact trodAll_cons_mk (shut_bool Try.underlying4 _) trodAll_mk0
  · rw [List.append_nil, hspec]
    exact trodAll_grown laid_ hb hts (fun x hx => hW'.lt x (by simpa using hx)) hA
  · rw [List.append_nil, hspec, hv]; rfl
  · exact World.keptBut_mono (fun x hx => ⟨by simpa using hx, .inr (.inl (by simpa using hx))⟩) (Below.frame hb (fun x => x ∈ p))
end Go.Proofs.Ytlannippingfdaa


namespace Go.Proofs.Ytlannippingfdaa
set_option maxRecDepth 100000
open Go.ChangeShapes Go.WideShapes Go.ChangeAt Go.RowKit

theorem i64_of {n : Int} (h : (Lit.int .i64 n).wf = true) : I64 n := by
  simp [Lit.wf, IntKind.min, IntKind.max, IntKind.signed, IntKind.bits] at h
  unfold I64
  omega
theorem cells_int : (Try.prog).cellsOf 3 = 1 := by kernel_rfl
theorem cells_string : (Try.prog).cellsOf 9 = 1 := by kernel_rfl
theorem cells_terms : (Try.prog).cellsOf 31 = 1 := by kernel_rfl
theorem cells_term : (Try.prog).cellsOf 36 = 4 := by kernel_rfl
theorem cells_goal : (Try.prog).cellsOf 45 = 3 := by kernel_rfl

section
variable {H : Type} {enc : TypeId × Value → H} {W : World} {base : Nat} {sp : Nat → Bool} {hd : Bool}

theorem open_termF : ∀ (fuel : Nat) (cs : List Value) (x : DataW H × List MemPlace), DataW.trod enc Try.prog W base sp hd fuel 36 cs = some x → ∃ t, CT W t cs := by
  intro fuel
  induction fuel using Nat.strongRecOn with
  | _ fuel IH =>
    intro cs x h
    obtain ⟨xs, n, rfl, rfl, hl, hlen, hf⟩ := DataW.trod_struct Try.underlying36 h
    rw [cells_term] at hl
    match xs, hlen, cs, hl with
    | [y0, y1, y2, y3], _, [c0, c1, c2, c3], _ =>
      have g0 := hf 0 _ rfl
      have g1 := hf 1 _ rfl
      have g2 := hf 2 _ rfl
      have g3 := hf 3 _ rfl
      simp [cells_int, cells_string, cells_terms] at g0 g1 g2 g3
      obtain ⟨k, e0, _, w0⟩ := DataW.trod_int Try.underlying3 g0
      obtain ⟨i, e1, _, w1⟩ := DataW.trod_int Try.underlying3 g1
      obtain ⟨s, e2, _, w2⟩ := DataW.trod_string Try.underlying9 g2
      obtain ⟨l, v, e3, h3⟩ := Lay.open_sl (L := layT) Try.underlying31 cells_term (fun m cs x hm h => IH m (by omega) cs x h) g3
      obtain ⟨A, c, zs, rfl, hc1, hc2, hr, hz⟩ := layT_sl.1 h3
      simp only [List.cons.injEq, and_true] at e0 e1 e2 e3
      subst e0 e1 e2 e3
      refine ⟨.mk k i s l, ?_⟩
      simp only [CT]
      exact ⟨A, c, zs, rfl, ⟨i64_of w0, i64_of w1, by unfold maxLen at w2; omega, hc1, hc2⟩, hr, hz⟩
variable {b0 : Nat} {r : Reach} {v : Value} {d : DataW H} {ps : List MemPlace}
end
end Go.Proofs.Ytlannippingfdaa


namespace Go.Proofs.Ytlannippingfdaa
set_option maxRecDepth 100000
open Go.RowKit

inductive D where
  | bool (b : Bool)
  | int (k : IntKind) (n : Int)
  | str (s : ByteArray)
  | lst (l : List D)
  | full (l : List D)
  | own (u : Value) (l : List D)
  | agg (fs : List D)
  | ptr (d : D)
  | ref (b off : Nat) (path : List Nat)
  | mref (b i s off : Nat) (path : List Nat)
  | arr (b s lo n : Nat)
  | vec (u : Value) (n : Nat)
  | clo (fn : Fn) (first cap : List D)
  | nilf
  | nilm
  | nilp
  | map (r : Nat)
  | ifc (t : TypeId) (d : D)
  | nili
  | tup (ds : List D)
  | undef

/-- From the address on the cells read so, and all these cells stay as they are. -/
def RdP (p : Addr → Prop) (w : World) (A : Option Addr) (xs : List Value) : Prop := xs = [] ∨ ∃ b o, A = some ⟨b, o, none⟩ ∧ ∀ j u, xs[j]? = some u → p ⟨b, o + j, none⟩ ∧ w.cell? ⟨b, o + j, none⟩ = some u

mutual
/-- The value shows the datum; p: the cells that stay as they are. -/
def Rep (p : Addr → Prop) (w : World) : D → Value → Prop
  | .bool b, v => v = .bool b
  | .int k n, v => v = .int k n ∧ k.wrap n = n
  | .str s, v => v = .string s ∧ s.size ≤ 9223372036854775807
  | .lst l, v => ∃ A c xs, v = .slice A l.length c ∧ l.length ≤ c ∧ c ≤ 9223372036854775807 ∧ RdP p w A xs ∧ Reps p w l xs ∧ ∀ u ∈ xs, u.oneCell' = true
  | .full l, v => ∃ A xs, v = .slice A l.length l.length ∧ l.length ≤ 9223372036854775807 ∧ RdP p w A xs ∧ Reps p w l xs ∧ ∀ u ∈ xs, u.oneCell' = true
  | .own u l, v => v = u ∧ ∃ A c xs, u = .slice A l.length c ∧ l.length ≤ c ∧ c ≤ 9223372036854775807 ∧ RdP p w A xs ∧ Reps p w l xs ∧ ∀ u ∈ xs, u.oneCell' = true
  | .agg fs, v => ∃ cs, v = .agg cs.toArray ∧ Reps p w fs cs ∧ ∀ u ∈ cs, u.oneCell' = true
  | .ptr d, v => ∃ b o u, v = .pointer (some ⟨b, o, none⟩) ∧ RdP p w (some ⟨b, o, none⟩) u.cells.toList ∧ Rep p w d u ∧ ∀ x ∈ u.cells.toList, x.oneCell' = true
  | .ref b off _, v => v = .pointer (some ⟨b, off, none⟩)
  | .mref b i s off _, v => v = .pointer (some ⟨b, i * s + off, none⟩)
  | .arr b s lo n, v => ∃ A c, v = .slice A n c ∧ n ≤ c ∧ c ≤ 9223372036854775807 ∧ (n = 0 ∨ A = some ⟨b, lo * s, none⟩)
  | .vec u n, v => v = u ∧ ∃ A c, u = .slice A n c ∧ n ≤ c ∧ c ≤ 9223372036854775807
  | .clo fn f c, v => ∃ fs cs, v = .func fn fs.toArray cs.toArray ∧ Repl p w f fs ∧ Repl p w c cs
  | .nilf, v => v = .nilFunc
  | .nilm, v => v = .map none
  | .nilp, v => v = .pointer none
  | .map r, v => v = .map (some r)
  | .ifc t d, v => ∃ u, v = .iface t u ∧ Rep p w d u
  | .nili, v => v = .nilIface
  | .tup ds, v => ∃ vs, v = .tuple vs.toArray ∧ Repl p w ds vs
  | .undef, v => v = Go.undef
/-- Cells, one datum behind the other. -/
def Reps (p : Addr → Prop) (w : World) : List D → List Value → Prop
  | [], cs => cs = []
  | d :: ds, cs => ∃ v rest, cs = v.cells.toList ++ rest ∧ Rep p w d v ∧ Reps p w ds rest
/-- Values, one for each datum. -/
def Repl (p : Addr → Prop) (w : World) : List D → List Value → Prop
  | [], vs => vs = []
  | d :: ds, vs => ∃ v rest, vs = v :: rest ∧ Rep p w d v ∧ Repl p w ds rest
end

/-- What stays stays, and more may. -/
def Grow (p : Addr → Prop) (w : World) (p' : Addr → Prop) (w' : World) : Prop := ∀ a, p a → p' a ∧ w'.cell? a = w.cell? a
theorem Grow.refl (p : Addr → Prop) (w : World) : Grow p w p w := fun _ h => ⟨h, rfl⟩
theorem Grow.tr {p p' p'' : Addr → Prop} {w w' w'' : World} (h : Grow p w p' w') (k : Grow p' w' p'' w'') : Grow p w p'' w'' := fun a ha => ⟨(k a (h a ha).1).1, (k a (h a ha).1).2.trans (h a ha).2⟩

theorem RdP.grow {p p' : Addr → Prop} {w w' : World} {A : Option Addr} {xs : List Value} (h : RdP p w A xs) (g : Grow p w p' w') : RdP p' w' A xs := by
  rcases h with h | ⟨b, o, h1, h2⟩
  · exact .inl h
  · exact .inr ⟨b, o, h1, fun j u hu => ⟨(g _ (h2 j u hu).1).1, ((g _ (h2 j u hu).1).2).trans (h2 j u hu).2⟩⟩

mutual
theorem Rep.grow {p p' : Addr → Prop} {w w' : World} (g : Grow p w p' w') : ∀ {d : D} {v : Value}, Rep p w d v → Rep p' w' d v
  | .bool _, _, h => by simpa only [Rep] using h
  | .int _ _, _, h => by simpa only [Rep] using h
  | .str _, _, h => by simpa only [Rep] using h
  | .lst l, _, h => by
    simp only [Rep] at h ⊢
    obtain ⟨A, c, xs, h1, h2, h3, h4, h5, h6⟩ := h
    exact ⟨A, c, xs, h1, h2, h3, h4.grow g, Reps.grow g h5, h6⟩
  | .full l, _, h => by
    simp only [Rep] at h ⊢
    obtain ⟨A, xs, h1, h3, h4, h5, h6⟩ := h
    exact ⟨A, xs, h1, h3, h4.grow g, Reps.grow g h5, h6⟩
  | .own u l, _, h => by
    simp only [Rep] at h ⊢
    obtain ⟨h0, A, c, xs, h1, h2, h3, h4, h5, h6⟩ := h
    exact ⟨h0, A, c, xs, h1, h2, h3, h4.grow g, Reps.grow g h5, h6⟩
  | .agg fs, _, h => by
    simp only [Rep] at h ⊢
    obtain ⟨cs, h1, h2, h3⟩ := h
    exact ⟨cs, h1, Reps.grow g h2, h3⟩
  | .ptr d, _, h => by
    simp only [Rep] at h ⊢
    obtain ⟨b, o, u, h1, h2, h3, h4⟩ := h
    exact ⟨b, o, u, h1, h2.grow g, Rep.grow g h3, h4⟩
  | .ref _ _ _, _, h => by simpa only [Rep] using h
  | .mref _ _ _ _ _, _, h => by simpa only [Rep] using h
  | .arr _ _ _ _, _, h => by simpa only [Rep] using h
  | .vec _ _, _, h => by simpa only [Rep] using h
  | .clo _ _ _, _, h => by
    simp only [Rep] at h ⊢
    obtain ⟨fs, cs, h1, h2, h3⟩ := h
    exact ⟨fs, cs, h1, Repl.grow g h2, Repl.grow g h3⟩
  | .nilf, _, h => by simpa only [Rep] using h
  | .nilm, _, h => by simpa only [Rep] using h
  | .nilp, _, h => by simpa only [Rep] using h
  | .map _, _, h => by simpa only [Rep] using h
  | .ifc _ _, _, h => by
    simp only [Rep] at h ⊢
    obtain ⟨u, h1, h2⟩ := h
    exact ⟨u, h1, Rep.grow g h2⟩
  | .nili, _, h => by simpa only [Rep] using h
  | .tup ds, _, h => by
    simp only [Rep] at h ⊢
    obtain ⟨vs, h1, h2⟩ := h
    exact ⟨vs, h1, Repl.grow g h2⟩
  | .undef, _, h => by simpa only [Rep] using h
theorem Reps.grow {p p' : Addr → Prop} {w w' : World} (g : Grow p w p' w') : ∀ {ds : List D} {cs : List Value}, Reps p w ds cs → Reps p' w' ds cs
  | [], _, h => by simpa only [Reps] using h
  | _ :: _, _, h => by
    simp only [Reps] at h ⊢
    obtain ⟨v, rest, h1, h2, h3⟩ := h
    exact ⟨v, rest, h1, Rep.grow g h2, Reps.grow g h3⟩
theorem Repl.grow {p p' : Addr → Prop} {w w' : World} (g : Grow p w p' w') : ∀ {ds : List D} {vs : List Value}, Repl p w ds vs → Repl p' w' ds vs
  | [], _, h => by simpa only [Repl] using h
  | _ :: _, _, h => by
    simp only [Repl] at h ⊢
    obtain ⟨v, rest, h1, h2, h3⟩ := h
    exact ⟨v, rest, h1, Rep.grow g h2, Repl.grow g h3⟩
end

mutual
/-- How many cells a datum takes. -/
def sz : D → Nat
  | .agg fs => szs fs
  | _ => 1
def szs : List D → Nat
  | [] => 0
  | d :: ds => sz d + szs ds
end
mutual
theorem Rep.sz {p : Addr → Prop} {w : World} : ∀ {d : D} {v : Value}, Rep p w d v → v.cells.size = sz d
  | .agg fs, _, h => by
    simp only [Rep] at h
    obtain ⟨cs, rfl, h2, _⟩ := h
    simp only [Value.cells, Ytlannippingfdaa.sz, List.size_toArray]
    exact Reps.len h2
  | .bool _, _, h => by simp only [Rep] at h; subst h; rfl
  | .int _ _, _, h => by simp only [Rep] at h; rw [h.1]; rfl
  | .str _, _, h => by simp only [Rep] at h; rw [h.1]; rfl
  | .lst _, _, h => by simp only [Rep] at h; obtain ⟨A, c, xs, rfl, _⟩ := h; rfl
  | .full _, _, h => by simp only [Rep] at h; obtain ⟨A, xs, rfl, _⟩ := h; rfl
  | .own _ _, _, h => by simp only [Rep] at h; obtain ⟨rfl, A, c, xs, rfl, _⟩ := h; rfl
  | .ptr _, _, h => by simp only [Rep] at h; obtain ⟨b, o, u, rfl, _⟩ := h; rfl
  | .ref _ _ _, _, h => by simp only [Rep] at h; subst h; rfl
  | .mref _ _ _ _ _, _, h => by simp only [Rep] at h; subst h; rfl
  | .arr _ _ _ _, _, h => by simp only [Rep] at h; obtain ⟨A, c, rfl, _⟩ := h; rfl
  | .vec _ _, _, h => by simp only [Rep] at h; obtain ⟨rfl, A, c, rfl, _⟩ := h; rfl
  | .clo _ _ _, _, h => by simp only [Rep] at h; obtain ⟨fs, cs, rfl, _⟩ := h; rfl
  | .nilf, _, h => by simp only [Rep] at h; subst h; rfl
  | .nilm, _, h => by simp only [Rep] at h; subst h; rfl
  | .nilp, _, h => by simp only [Rep] at h; subst h; rfl
  | .map _, _, h => by simp only [Rep] at h; subst h; rfl
  | .ifc _ _, _, h => by simp only [Rep] at h; obtain ⟨u, rfl, _⟩ := h; rfl
  | .nili, _, h => by simp only [Rep] at h; subst h; rfl
  | .tup _, _, h => by simp only [Rep] at h; obtain ⟨vs, rfl, _⟩ := h; rfl
  | .undef, _, h => by simp only [Rep] at h; subst h; rfl
theorem Reps.len {p : Addr → Prop} {w : World} : ∀ {ds : List D} {cs : List Value}, Reps p w ds cs → cs.length = szs ds
  | [], _, h => by simp only [Reps] at h; subst h; rfl
  | d :: ds, _, h => by
    simp only [Reps] at h
    obtain ⟨v, rest, rfl, h2, h3⟩ := h
    rw [List.length_append, Reps.len h3, szs, Array.length_toList, Rep.sz h2]
end

/-- One value in place of one that shows another datum. -/
def Wk (d d' : D) : Prop := ∀ p w v, Rep p w d v → Rep p w d' v
theorem Wk.refl (d : D) : Wk d d := fun _ _ _ h => h
theorem Wk.own (u : Value) (l : List D) : Wk (.own u l) (.lst l) := fun p w v h => by
  simp only [Rep] at h ⊢
  obtain ⟨rfl, h⟩ := h
  exact h
theorem Wk.full (l : List D) : Wk (.full l) (.lst l) := fun p w v h => by
  simp only [Rep] at h ⊢
  obtain ⟨A, xs, h1, h3, h4⟩ := h
  exact ⟨A, _, xs, h1, Nat.le_refl _, h3, h4⟩
theorem Wk.ofEq {d d' : D} (h : d = d') : Wk d d' := h ▸ Wk.refl d

/-- A value whose cells are single ones. -/
def D.plain : D → Bool
  | .tup _ | .undef => false
  | _ => true
theorem Rep.one {p : Addr → Prop} {w : World} {d : D} {v : Value} (h : Rep p w d v) (hp : d.plain = true) : ∀ u ∈ v.cells.toList, u.oneCell' = true := by
  cases d <;> simp only [Rep] at h
  case agg fs =>
    obtain ⟨cs, rfl, _, h3⟩ := h
    simpa [Value.cells] using h3
  case tup => cases hp
  case undef => cases hp
  case bool => subst h; simp [Value.cells, Value.oneCell']
  case int => rw [h.1]; simp [Value.cells, Value.oneCell']
  case str => rw [h.1]; simp [Value.cells, Value.oneCell']
  case lst => obtain ⟨A, c, xs, rfl, _⟩ := h; simp [Value.cells, Value.oneCell']
  case full => obtain ⟨A, xs, rfl, _⟩ := h; simp [Value.cells, Value.oneCell']
  case own => obtain ⟨rfl, A, c, xs, rfl, _⟩ := h; simp [Value.cells, Value.oneCell']
  case ptr => obtain ⟨b, o, u, rfl, _⟩ := h; simp [Value.cells, Value.oneCell']
  case ref => subst h; simp [Value.cells, Value.oneCell']
  case mref => subst h; simp [Value.cells, Value.oneCell']
  case arr => obtain ⟨A, c, rfl, _⟩ := h; simp [Value.cells, Value.oneCell']
  case vec => obtain ⟨rfl, A, c, rfl, _⟩ := h; simp [Value.cells, Value.oneCell']
  case clo => obtain ⟨fs, cs, rfl, _⟩ := h; simp [Value.cells, Value.oneCell']
  case nilf => subst h; simp [Value.cells, Value.oneCell']
  case nilm => subst h; simp [Value.cells, Value.oneCell']
  case nilp => subst h; simp [Value.cells, Value.oneCell']
  case map => subst h; simp [Value.cells, Value.oneCell']
  case ifc => obtain ⟨u, rfl, _⟩ := h; simp [Value.cells, Value.oneCell']
  case nili => subst h; simp [Value.cells, Value.oneCell']

def D.isAgg : D → Bool
  | .agg _ => true
  | _ => false
/-- The cells written back to a value: by the datum's shape. -/
def reval (d : D) (cs : List Value) : Value := match d with
  | .agg _ => .agg cs.toArray
  | _ => cs.headD Go.undef
theorem Rep.back {p : Addr → Prop} {w : World} {d : D} {v : Value} (h : Rep p w d v) : v = reval d v.cells.toList := by
  cases d <;> simp only [Rep] at h
  case agg fs =>
    obtain ⟨cs, rfl, _, h3⟩ := h
    simp [Value.cells, reval]
  case tup => obtain ⟨vs, rfl, _⟩ := h; simp [Value.cells, reval]
  case undef => subst h; simp [Value.cells, reval, Go.undef]
  case bool => subst h; simp [Value.cells, reval]
  case int => rw [h.1]; simp [Value.cells, reval]
  case str => rw [h.1]; simp [Value.cells, reval]
  case lst => obtain ⟨A, c, xs, rfl, _⟩ := h; simp [Value.cells, reval]
  case full => obtain ⟨A, xs, rfl, _⟩ := h; simp [Value.cells, reval]
  case own => obtain ⟨rfl, A, c, xs, rfl, _⟩ := h; simp [Value.cells, reval]
  case ptr => obtain ⟨b, o, u, rfl, _⟩ := h; simp [Value.cells, reval]
  case ref => subst h; simp [Value.cells, reval]
  case mref => subst h; simp [Value.cells, reval]
  case arr => obtain ⟨A, c, rfl, _⟩ := h; simp [Value.cells, reval]
  case vec => obtain ⟨rfl, A, c, rfl, _⟩ := h; simp [Value.cells, reval]
  case clo => obtain ⟨fs, cs, rfl, _⟩ := h; simp [Value.cells, reval]
  case nilf => subst h; simp [Value.cells, reval]
  case nilm => subst h; simp [Value.cells, reval]
  case nilp => subst h; simp [Value.cells, reval]
  case map => subst h; simp [Value.cells, reval]
  case ifc => obtain ⟨u, rfl, _⟩ := h; simp [Value.cells, reval]
  case nili => subst h; simp [Value.cells, reval]

theorem Reps.app {p : Addr → Prop} {w : World} : ∀ {l m : List D} {xs ys : List Value}, Reps p w l xs → Reps p w m ys → Reps p w (l ++ m) (xs ++ ys)
  | [], _, _, _, h, k => by simp only [Reps] at h; subst h; simpa using k
  | d :: l, m, _, ys, h, k => by
    simp only [Reps] at h
    obtain ⟨v, rest, rfl, h2, h3⟩ := h
    rw [List.cons_append, List.append_assoc]
    simp only [Reps]
    exact ⟨v, rest ++ ys, rfl, h2, Reps.app h3 k⟩
theorem Reps.nil (p : Addr → Prop) (w : World) : Reps p w [] [] := by simp only [Reps]
theorem Reps.cons {p : Addr → Prop} {w : World} {d : D} {l : List D} {v : Value} {ys : List Value} (h : Rep p w d v) (k : Reps p w l ys) : Reps p w (d :: l) (v.cells.toList ++ ys) := by
  simp only [Reps]; exact ⟨v, ys, rfl, h, k⟩
theorem Reps.single {p : Addr → Prop} {w : World} {d : D} {v : Value} (h : Rep p w d v) : Reps p w [d] v.cells.toList := by simpa using Reps.cons h (Reps.nil p w)
theorem Repl.cons {p : Addr → Prop} {w : World} {d : D} {l : List D} {v : Value} {ys : List Value} (h : Rep p w d v) (k : Repl p w l ys) : Repl p w (d :: l) (v :: ys) := by
  simp only [Repl]; exact ⟨v, ys, rfl, h, k⟩
theorem Repl.nil (p : Addr → Prop) (w : World) : Repl p w [] [] := by simp only [Repl]
theorem Repl.app {p : Addr → Prop} {w : World} : ∀ {l m : List D} {xs ys : List Value}, Repl p w l xs → Repl p w m ys → Repl p w (l ++ m) (xs ++ ys)
  | [], _, _, _, h, k => by simp only [Repl] at h; subst h; simpa using k
  | d :: l, m, _, ys, h, k => by
    simp only [Repl] at h
    obtain ⟨v, rest, rfl, h2, h3⟩ := h
    exact Repl.cons h2 (Repl.app h3 k)
theorem Repl.at_ {p : Addr → Prop} {w : World} : ∀ {l : List D} {vs : List Value} {i : Nat} {d : D}, Repl p w l vs → l[i]? = some d → ∃ v, vs[i]? = some v ∧ Rep p w d v
  | [], _, _, _, _, hi => by simp at hi
  | d :: l, _, 0, e, h, hi => by
    simp only [Repl] at h
    obtain ⟨v, rest, rfl, h2, h3⟩ := h
    simp at hi; subst hi
    exact ⟨v, rfl, h2⟩
  | d :: l, _, i + 1, e, h, hi => by
    simp only [Repl] at h
    obtain ⟨v, rest, rfl, h2, h3⟩ := h
    simp at hi
    obtain ⟨u, h4, h5⟩ := Repl.at_ h3 hi
    exact ⟨u, by simpa using h4, h5⟩
/-- One of the data, where it begins. -/
theorem Reps.at_ {p : Addr → Prop} {w : World} : ∀ {l : List D} {xs : List Value} {i : Nat} {d : D}, Reps p w l xs → l[i]? = some d → ∃ v, Rep p w d v ∧ xs = xs.take (szs (l.take i)) ++ v.cells.toList ++ xs.drop (szs (l.take i) + sz d) ∧ (xs.take (szs (l.take i))).length = szs (l.take i)
  | [], _, _, _, _, hi => by simp at hi
  | d :: l, _, 0, e, h, hi => by
    simp only [Reps] at h
    obtain ⟨v, rest, rfl, h2, h3⟩ := h
    simp at hi; subst hi
    refine ⟨v, h2, ?_, by simp [szs]⟩
    have hs := Rep.sz h2
    simp only [List.take_zero, szs, Nat.zero_add, List.nil_append]
    rw [← hs, ← Array.length_toList, List.drop_left]
  | d :: l, _, i + 1, e, h, hi => by
    simp only [Reps] at h
    obtain ⟨v, rest, rfl, h2, h3⟩ := h
    simp at hi
    obtain ⟨u, h4, h5, h6⟩ := Reps.at_ h3 hi
    have hs := Rep.sz h2
    have hs' : v.cells.toList.length = sz d := by simpa using hs
    refine ⟨u, h4, ?_, ?_⟩
    · simp only [List.take_succ_cons, szs]
      have e1 : (v.cells.toList ++ rest).take (sz d + szs (l.take i)) = v.cells.toList ++ rest.take (szs (l.take i)) := by rw [← hs', List.take_length_add_append]
      have e2 : (v.cells.toList ++ rest).drop (sz d + szs (l.take i) + sz e) = rest.drop (szs (l.take i) + sz e) := by rw [← hs', Nat.add_assoc, List.drop_length_add_append]
      rw [e1, e2, List.append_assoc, List.append_assoc]
      rw [List.append_assoc] at h5
      rw [← h5]
    · simp only [List.take_succ_cons, szs]
      rw [← hs', List.take_length_add_append, List.length_append, h6]
theorem Reps.at_cell {p : Addr → Prop} {w : World} {l : List D} {xs : List Value} {i : Nat} {d : D} (h : Reps p w l xs) (hi : l[i]? = some d) : ∃ v, Rep p w d v ∧ ∀ j u, v.cells.toList[j]? = some u → xs[szs (l.take i) + j]? = some u := by
  obtain ⟨v, h1, h2, h3⟩ := h.at_ hi
  refine ⟨v, h1, fun j u hu => ?_⟩
  rw [h2, List.append_assoc, List.getElem?_append_right (by omega), h3, Nat.add_sub_cancel_left, List.getElem?_append_left (List.getElem?_eq_some_iff.1 hu).1]
  exact hu
/-- Data of one size. -/
def AllSz (s : Nat) (l : List D) : Prop := ∀ d ∈ l, sz d = s
theorem AllSz.szs {s : Nat} : ∀ {l : List D}, AllSz s l → szs l = l.length * s
  | [], _ => by simp [Ytlannippingfdaa.szs]
  | d :: l, h => by
    have h1 := h d (List.mem_cons_self ..)
    have h2 := AllSz.szs (l := l) fun e he => h e (List.mem_cons_of_mem _ he)
    simp only [Ytlannippingfdaa.szs, List.length_cons, h1, h2, Nat.add_mul, Nat.one_mul]
    omega
theorem AllSz.take {s : Nat} {l : List D} (h : AllSz s l) (i : Nat) : AllSz s (l.take i) := fun d hd => h d (List.mem_of_mem_take hd)
theorem AllSz.drop {s : Nat} {l : List D} (h : AllSz s l) (i : Nat) : AllSz s (l.drop i) := fun d hd => h d (List.mem_of_mem_drop hd)
theorem AllSz.app {s : Nat} {l m : List D} (h : AllSz s l) (k : AllSz s m) : AllSz s (l ++ m) := fun d hd => (List.mem_append.1 hd).elim (h d) (k d)
theorem AllSz.nil (s : Nat) : AllSz s [] := fun _ h => by cases h
theorem AllSz.cons {s : Nat} {d : D} {l : List D} (h : sz d = s) (k : AllSz s l) : AllSz s (d :: l) := fun e he => (List.mem_cons.1 he).elim (fun h' => h' ▸ h) (k e)
theorem Reps.take {p : Addr → Prop} {w : World} : ∀ {l : List D} {xs : List Value} (i : Nat), Reps p w l xs → Reps p w (l.take i) (xs.take (szs (l.take i)))
  | l, xs, 0, _ => by simpa [szs] using Reps.nil p w
  | [], _, i + 1, h => by simp only [Reps] at h; subst h; simpa using Reps.nil p w
  | d :: l, _, i + 1, h => by
    simp only [Reps] at h
    obtain ⟨v, rest, rfl, h2, h3⟩ := h
    have hs' : v.cells.toList.length = sz d := by simpa using Rep.sz h2
    simp only [List.take_succ_cons, szs]
    rw [← hs', List.take_length_add_append]
    exact Reps.cons h2 (Reps.take i h3)
theorem Reps.drop {p : Addr → Prop} {w : World} : ∀ {l : List D} {xs : List Value} (i : Nat), Reps p w l xs → Reps p w (l.drop i) (xs.drop (szs (l.take i)))
  | l, xs, 0, h => by simpa [szs] using h
  | [], _, i + 1, h => by simp only [Reps] at h; subst h; simpa using Reps.nil p w
  | d :: l, _, i + 1, h => by
    simp only [Reps] at h
    obtain ⟨v, rest, rfl, h2, h3⟩ := h
    have hs' : v.cells.toList.length = sz d := by simpa using Rep.sz h2
    simp only [List.take_succ_cons, List.drop_succ_cons, szs]
    rw [← hs', List.drop_length_add_append]
    exact Reps.drop i h3
end Go.Proofs.Ytlannippingfdaa


namespace Go.Proofs.Ytlannippingfdaa
set_option maxRecDepth 100000
open Go.RowKit

abbrev Env := List (Nat × D)
def lk : Env → Nat → Option D
  | [], _ => none
  | (k, d) :: r, s => bif Nat.beq k s then some d else lk r s

inductive Ob where
  | cell (b : Nat) (d : D)
  | row (u : Value) (n : Nat) (e : TypeId) (s : Nat)
  | arr (b : Nat) (l : List D) (e : TypeId) (s : Nat)
  | vec (u : Value) (l : List D) (e : TypeId) (s : Nat)
  | map (r : Nat) (kv : List (D × D))
  | mapE (r : Nat) (kv : List (D × D)) (es : Array MapEntry) (clock : Nat)
  | iter (b r since : Nat) (seen : Array Nat) (last : Nat)
  | aux (b : Nat) (o : Obj)
  | loop (l : Nat) (env : Env) (L : Loop)
abbrev St := List Ob

def Ob.blk : Ob → Option Nat
  | .cell b _ => some b
  | .row u _ _ _ => u.ownBlock
  | .arr _ [] _ _ => none
  | .arr b (_ :: _) _ _ => some b
  | .vec u _ _ _ => u.ownBlock
  | .map r _ => some r
  | .mapE r _ _ _ => some r
  | .iter b _ _ _ _ => some b
  | .aux b _ => some b
  | .loop l _ _ => some l
def blks (σ : St) : List Nat := σ.filterMap Ob.blk

/-- The entries of a map, in their order. -/
def RepKV (p : Addr → Prop) (w : World) : List (D × D) → List MapEntry → Prop
  | [], es => es = []
  | (k, d) :: kv, es => ∃ e rest, es = e :: rest ∧ Rep p w k e.key ∧ Rep p w d e.val ∧ RepKV p w kv rest
theorem RepKV.grow {p p' : Addr → Prop} {w w' : World} (g : Grow p w p' w') : ∀ {kv : List (D × D)} {es : List MapEntry}, RepKV p w kv es → RepKV p' w' kv es
  | [], _, h => h
  | _ :: _, _, ⟨e, rest, h1, h2, h3, h4⟩ => ⟨e, rest, h1, h2.grow g, h3.grow g, RepKV.grow g h4⟩

def ObOk (p : Addr → Prop) (w : World) : Ob → Prop
  | .cell b d => ∃ v ty, Rep p w d v ∧ d.plain = true ∧ w.heap[b]? = some (.cells v.cells ty (0, 0)) ∧ ∀ a, p a → a.block ≠ b
  | .row u n e s => (∃ xs, w.ownsRow 0 e s u n xs) ∧ ∀ g, u.ownBlock = some g → ∀ a, p a → a.block = g → a.off < n * s
  | .arr b l e s => AllSz s l ∧ l.length ≤ 9223372036854775807 ∧ 0 < s ∧ (l = [] ∨ ∃ xs junk, Reps p w l xs ∧ (∀ u ∈ xs, u.oneCell' = true) ∧ w.heap[b]? = some (.cells (xs ++ junk).toArray e (0, 0)) ∧ ∀ a, p a → a.block ≠ b)
  | .vec u l e s => AllSz s l ∧ 0 < s ∧ (∃ xs, w.ownsRow 0 e s u l.length xs ∧ Reps p w l xs ∧ ∀ x ∈ xs, x.oneCell' = true) ∧ ∀ g, u.ownBlock = some g → ∀ a, p a → a.block ≠ g
  | .map r kv => ∃ es clock, w.heap[r]? = some (.map es clock) ∧ RepKV p w kv es.toList ∧ kv.length ≤ 9223372036854775807 ∧ (es.toList.map (·.born)).Nodup ∧ ∀ e ∈ es.toList, e.born < clock
  | .mapE r kv es clock => w.heap[r]? = some (.map es clock) ∧ RepKV p w kv es.toList ∧ kv.length ≤ 9223372036854775807 ∧ (es.toList.map (·.born)).Nodup ∧ ∀ e ∈ es.toList, e.born < clock
  | .iter b r since seen last => w.heap[b]? = some (.mapIter (some r) since seen last)
  | .aux b o => w.heap[b]? = some o
  | .loop l env L => w.heap[l]? = some (.loop L) ∧ ∀ t d, lk env t = some d → Rep p w d (L.tmps.getD t Go.undef)

/-- What a walk begins with: the world, what stays, the blocks that it may write. -/
structure Ctx where
  w0 : World
  p0 : Addr → Prop
  F0 : Nat → Prop
  /-- what a panic may leave -/
  X : D → St → Prop := fun _ _ => False

structure Inv (K : Ctx) (p : Addr → Prop) (σ : St) (w : World) : Prop where
  ok : ∀ o ∈ σ, ObOk p w o
  nd : (blks σ).Nodup
  mine : ∀ b ∈ blks σ, K.w0.heap.size ≤ b ∨ K.F0 b
  pub : ∀ a, p a → ∃ v, w.cell? a = some v
  gr : Grow K.p0 K.w0 p w
  neu : ∀ a, p a → K.p0 a ∨ K.w0.heap.size ≤ a.block ∨ K.F0 a.block
  os : w.os = K.w0.os
  tape : w.tape = K.w0.tape
  output : w.output = K.w0.output
  size : K.w0.heap.size ≤ w.heap.size
  block : ∀ b, b < K.w0.heap.size → ¬ K.F0 b → w.heap[b]? = K.w0.heap[b]?

theorem cell_lt {w : World} {a : Addr} {v : Value} (h : w.cell? a = some v) : a.block < w.heap.size := World.block_lt_of_cell? w a h
theorem cell_same {w w' : World} {a : Addr} (h : w'.heap[a.block]? = w.heap[a.block]?) : w'.cell? a = w.cell? a := World.cell?_of_block h

theorem ObOk.lt {p : Addr → Prop} {w : World} {o : Ob} (h : ObOk p w o) {b : Nat} (hb : o.blk = some b) : b < w.heap.size := by
  cases o with
  | cell b' d =>
    obtain ⟨v, ty, _, _, h3, _⟩ := h
    simp only [Ob.blk, Option.some.injEq] at hb
    subst hb
    exact (Array.getElem?_eq_some_iff.1 h3).1
  | row u n e s =>
    obtain ⟨⟨xs, h1⟩, _⟩ := h
    exact (h1.lt b hb).2
  | arr b' l e s =>
    obtain ⟨_, _, _, h⟩ := h
    cases l with
    | nil => simp [Ob.blk] at hb
    | cons x l =>
      obtain ⟨xs, junk, _, _, h3, _⟩ := h.resolve_left (by simp)
      simp only [Ob.blk, Option.some.injEq] at hb
      subst hb
      exact (Array.getElem?_eq_some_iff.1 h3).1
  | vec u l e s =>
    obtain ⟨_, _, ⟨xs, h1, _⟩, _⟩ := h
    exact (h1.lt b hb).2
  | map r kv =>
    obtain ⟨es, cl, h3, _⟩ := h
    simp only [Ob.blk, Option.some.injEq] at hb
    subst hb
    exact (Array.getElem?_eq_some_iff.1 h3).1
  | mapE r kv es cl =>
    obtain ⟨h3, _⟩ := h
    simp only [Ob.blk, Option.some.injEq] at hb
    subst hb
    exact (Array.getElem?_eq_some_iff.1 h3).1
  | iter b' r s seen l =>
    simp only [Ob.blk, Option.some.injEq] at hb
    subst hb
    exact (Array.getElem?_eq_some_iff.1 (show w.heap[b']? = some _ from h)).1
  | aux b' o =>
    simp only [Ob.blk, Option.some.injEq] at hb
    subst hb
    exact (Array.getElem?_eq_some_iff.1 (show w.heap[b']? = some _ from h)).1
  | loop b' env L =>
    simp only [Ob.blk, Option.some.injEq] at hb
    subst hb
    exact (Array.getElem?_eq_some_iff.1 (show w.heap[b']? = some _ from h.1)).1

/-- An object whose block has not been written, and of which nothing more has been given out. -/
theorem ObOk.keep {p p' : Addr → Prop} {w w' : World} {o : Ob} (h : ObOk p w o) (g : Grow p w p' w') (hh : ∀ b, o.blk = some b → w'.heap[b]? = w.heap[b]?) (hp : ∀ a b, p' a → o.blk = some b → a.block = b → p a) : ObOk p' w' o := by
  cases o with
  | cell b d =>
    obtain ⟨v, ty, h1, h2, h3, h4⟩ := h
    exact ⟨v, ty, h1.grow g, h2, (hh b rfl).trans h3, fun a ha hb => h4 a (hp a b ha rfl hb) hb⟩
  | row u n e s =>
    obtain ⟨⟨xs, h1, h2⟩, h3⟩ := h
    refine ⟨⟨xs, h1, ?_⟩, fun g' hg a ha hb => h3 g' hg a (hp a g' ha hg hb) hb⟩
    rcases h2 with h2 | ⟨g', cap, cur, rfl, h4, h5, h6⟩
    · exact .inl h2
    · exact .inr ⟨g', cap, cur, rfl, h4, (hh g' rfl).trans h5, h6⟩
  | arr b l e s =>
    obtain ⟨h1, h2, h0, h⟩ := h
    refine ⟨h1, h2, h0, ?_⟩
    cases l with
    | nil => exact .inl rfl
    | cons x l =>
      obtain ⟨xs, junk, h3, h4, h5, h6⟩ := h.resolve_left (by simp)
      exact .inr ⟨xs, junk, h3.grow g, h4, (hh b rfl).trans h5, fun a ha hb => h6 a (hp a b ha rfl hb) hb⟩
  | vec u l e s =>
    obtain ⟨h1, h2, ⟨xs, ⟨h3, h4⟩, h5, h6⟩, h7⟩ := h
    refine ⟨h1, h2, ⟨xs, ⟨h3, ?_⟩, h5.grow g, h6⟩, fun g' hg a ha hb => h7 g' hg a (hp a g' ha hg hb) hb⟩
    rcases h4 with h4 | ⟨g', cap, cur, rfl, k1, k2, k3⟩
    · exact .inl h4
    · exact .inr ⟨g', cap, cur, rfl, k1, (hh g' rfl).trans k2, k3⟩
  | map r kv =>
    obtain ⟨es, cl, h3, h4, h5⟩ := h
    exact ⟨es, cl, (hh r rfl).trans h3, h4.grow g, h5⟩
  | mapE r kv es cl =>
    obtain ⟨h3, h4, h5⟩ := h
    exact ⟨(hh r rfl).trans h3, h4.grow g, h5⟩
  | iter b r s seen l => exact (hh b rfl).trans h
  | aux b o => exact (hh b rfl).trans h
  | loop b env L => exact ⟨(hh b rfl).trans h.1, fun t d ht => (h.2 t d ht).grow g⟩

theorem mem_blks {σ : St} {b : Nat} : b ∈ blks σ ↔ ∃ o ∈ σ, o.blk = some b := by simp [blks, List.mem_filterMap]
theorem blks_app (σ τ : St) : blks (σ ++ τ) = blks σ ++ blks τ := by simp [blks]
theorem blks_perm {σ τ : St} (h : σ.Perm τ) : (blks σ).Perm (blks τ) := h.filterMap _

theorem Inv.lt {K : Ctx} {p : Addr → Prop} {σ : St} {w : World} (h : Inv K p σ w) {b : Nat} (hb : b ∈ blks σ) : b < w.heap.size := by
  obtain ⟨o, ho, hb⟩ := mem_blks.1 hb
  exact (h.ok o ho).lt hb

theorem Inv.perm {K : Ctx} {p : Addr → Prop} {σ τ : St} {w : World} (h : Inv K p σ w) (hp : σ.Perm τ) : Inv K p τ w :=
  ⟨fun o ho => h.ok o (hp.mem_iff.2 ho), (blks_perm hp).nodup_iff.1 h.nd, fun b hb => h.mine b ((blks_perm hp).mem_iff.2 hb), h.pub, h.gr, h.neu, h.os, h.tape, h.output, h.size, h.block⟩

/-- Objects are let go. -/
theorem Inv.less {K : Ctx} {p : Addr → Prop} {σ τ : St} {w : World} (h : Inv K p (σ ++ τ) w) : Inv K p σ w := by
  have hn := h.nd
  rw [blks_app] at hn
  exact ⟨fun o ho => h.ok o (List.mem_append_left _ ho), (List.nodup_append.1 hn).1, fun b hb => h.mine b (by rw [blks_app]; exact List.mem_append_left _ hb), h.pub, h.gr, h.neu, h.os, h.tape, h.output, h.size, h.block⟩

/-- The state that a callee begins with. -/
def ctx (w : World) (p : Addr → Prop) (σ : St) : Ctx := { w0 := w, p0 := p, F0 := fun b => b ∈ blks σ }
theorem Inv.enter {K : Ctx} {p : Addr → Prop} {σ τ : St} {w : World} (h : Inv K p (σ ++ τ) w) : Inv (ctx w p σ) p σ w :=
  let h' := h.less
  ⟨h'.ok, h'.nd, fun _ hb => .inr hb, h.pub, Grow.refl p w, fun _ ha => .inl ha, rfl, rfl, rfl, Nat.le_refl _, fun _ _ _ => rfl⟩
/-- The state behind a call: what the callee has left of its objects, and all others as they were. -/
theorem Inv.leave {K : Ctx} {p p' : Addr → Prop} {σ σ' τ : St} {w w' : World} (h : Inv K p (σ ++ τ) w) (h' : Inv (ctx w p σ) p' σ' w') : Inv K p' (σ' ++ τ) w' := by
  have hn := h.nd
  rw [blks_app] at hn
  obtain ⟨hn1, hn2, hn3⟩ := List.nodup_append.1 hn
  have ht : ∀ o ∈ τ, ∀ b, o.blk = some b → b < w.heap.size ∧ b ∉ blks σ := fun o ho b hb => ⟨(h.ok o (List.mem_append_right _ ho)).lt hb, fun hm => hn3 b hm b (mem_blks.2 ⟨o, ho, hb⟩) rfl⟩
  refine ⟨fun o ho => ?_, ?_, fun b hb => ?_, h'.pub, h.gr.tr h'.gr, fun a ha => ?_, h'.os.trans h.os, h'.tape.trans h.tape, h'.output.trans h.output, Nat.le_trans h.size h'.size, fun b hb hF => ?_⟩
  · rcases List.mem_append.1 ho with ho | ho
    · exact h'.ok o ho
    · refine (h.ok o (List.mem_append_right _ ho)).keep h'.gr (fun b hb => h'.block b (ht o ho b hb).1 (ht o ho b hb).2) fun a b ha hb hab => ?_
      rcases h'.neu a ha with h1 | h1 | h1
      · exact h1
      · have := (ht o ho b hb).1
        simp only [ctx] at h1
        omega
      · exact absurd (hab ▸ h1) (ht o ho b hb).2
  · rw [blks_app]
    refine List.nodup_append.2 ⟨h'.nd, hn2, fun a ha b hb hab => ?_⟩
    subst hab
    obtain ⟨o, ho, hb⟩ := mem_blks.1 hb
    rcases h'.mine a ha with h1 | h1
    · have := (ht o ho a hb).1
      simp only [ctx] at h1
      omega
    · exact (ht o ho a hb).2 h1
  · rw [blks_app] at hb
    rcases List.mem_append.1 hb with hb | hb
    · rcases h'.mine b hb with h1 | h1
      · exact .inl (Nat.le_trans h.size h1)
      · exact h.mine b (by rw [blks_app]; exact List.mem_append_left _ h1)
    · exact h.mine b (by rw [blks_app]; exact List.mem_append_right _ hb)
  · rcases h'.neu a ha with h1 | h1 | h1
    · exact h.neu a h1
    · exact .inr (.inl (Nat.le_trans h.size h1))
    · exact .inr (h.mine _ (by rw [blks_app]; exact List.mem_append_left _ h1))
  · refine (h'.block b (Nat.lt_of_lt_of_le hb h.size) fun hm => ?_).trans (h.block b hb hF)
    rcases h.mine b (by rw [blks_app]; exact List.mem_append_left _ hm) with h1 | h1
    · omega
    · exact hF h1

/-- What a call leaves: a value that shows d, objects σ', of which R holds. -/
def Left (K : Ctx) (R : D → St → Prop) (e : Ending) (w : World) : Prop := (∃ v d σ p, e = .returned v ∧ R d σ ∧ Rep p w d v ∧ Inv K p σ w) ∨ ∃ v d σ p, e = .panicked [{ v, recovered := false }] ∧ K.X d σ ∧ Rep p w d v ∧ Inv K p σ w

/-- The contract of a function: called with values that show ds, over objects σ. -/
def Spec (P : Program) (f : FuncId) (ds : List D) (σ : St) (R : D → St → Prop) : Prop :=
  ∀ (w : World) (p : Addr → Prop) (vs : List Value), Inv (ctx w p σ) p σ w → Repl p w ds vs → Calls P f vs.toArray w (Left (ctx w p σ) R)

/-- It hands back d and touches no object. -/
def Gives (P : Program) (f : FuncId) (ds : List D) (d : D) : Prop := Spec P f ds [] fun d' _ => d' = d

/-! ### small steps of the state -/
section
variable {K : Ctx} {p : Addr → Prop} {σ : St} {w : World}

theorem grow_drew (p : Addr → Prop) (w : World) : Grow p w p w.drew := fun _ ha => ⟨ha, rfl⟩
theorem Inv.drew (h : Inv K p σ w) : Inv K p σ w.drew := ⟨fun o ho => (h.ok o ho).keep (grow_drew p w) (fun _ _ => rfl) fun _ _ ha _ _ => ha, h.nd, h.mine, h.pub, h.gr.tr (grow_drew p w), h.neu, h.os, h.tape, h.output, h.size, h.block⟩

theorem grow_alloc (hp : ∀ a, p a → ∃ v, w.cell? a = some v) (o : Obj) : Grow p w p (w.alloc o) := fun a ha => ⟨ha, by
  obtain ⟨v, hv⟩ := hp a ha
  exact cell_same (Below.heap_alloc w o _ (cell_lt hv))⟩

/-- A new block, of which nothing is given out yet. -/
theorem Inv.alloc (h : Inv K p σ w) (o : Obj) : Inv K p σ (w.alloc o) := by
  have g := grow_alloc h.pub o
  refine ⟨fun o' ho => ?_, h.nd, h.mine, fun a ha => ?_, h.gr.tr g, h.neu, h.os, h.tape, h.output, Nat.le_trans h.size (by simp), fun b hb hF => (Below.heap_alloc w o b (Nat.lt_of_lt_of_le hb h.size)).trans (h.block b hb hF)⟩
  · exact (h.ok o' ho).keep g (fun b hb => Below.heap_alloc w o b ((h.ok o' ho).lt hb)) fun a _ ha _ _ => ha
  · obtain ⟨v, hv⟩ := h.pub a ha
    exact ⟨v, ((g a ha).2).trans hv⟩

/-- More cells are given out: of a block that is no object's, or that of a row below its length. -/
theorem Inv.give (h : Inv K p σ w) (q : Addr → Prop) (hq : ∀ a, q a → (∃ v, w.cell? a = some v) ∧ (K.w0.heap.size ≤ a.block ∨ K.F0 a.block) ∧ ∀ o ∈ σ, ∀ b, o.blk = some b → a.block = b → p a) : Inv K (fun a => p a ∨ q a) σ w := by
  have g : Grow p w (fun a => p a ∨ q a) w := fun a ha => ⟨.inl ha, rfl⟩
  refine ⟨fun o ho => ?_, h.nd, h.mine, fun a ha => ?_, h.gr.tr g, fun a ha => ?_, h.os, h.tape, h.output, h.size, h.block⟩
  · exact (h.ok o ho).keep g (fun _ _ => rfl) fun a b ha hb hab => ha.elim id fun h' => (hq a h').2.2 o ho b hb hab
  · exact ha.elim (h.pub a) fun h' => (hq a h').1
  · exact ha.elim (h.neu a) fun h' => .inr (hq a h').2.1
theorem grow_give (p q : Addr → Prop) (w : World) : Grow p w (fun a => p a ∨ q a) w := fun a ha => ⟨.inl ha, rfl⟩

/-- One object more. -/
theorem Inv.more (h : Inv K p σ w) {o : Ob} (ho : ObOk p w o) (hb : ∀ b, o.blk = some b → (K.w0.heap.size ≤ b ∨ K.F0 b) ∧ b ∉ blks σ) : Inv K p (o :: σ) w := by
  refine ⟨fun o' ho' => (List.mem_cons.1 ho').elim (fun e => e ▸ ho) (h.ok o'), ?_, fun b hb' => ?_, h.pub, h.gr, h.neu, h.os, h.tape, h.output, h.size, h.block⟩
  · cases hx : o.blk with
    | none => simpa [blks, hx] using h.nd
    | some b =>
      have := (hb b hx).2
      simp only [blks] at this ⊢
      simp only [List.filterMap_cons, hx, List.nodup_cons]
      exact ⟨this, h.nd⟩
  · obtain ⟨o', ho', hx⟩ := mem_blks.1 hb'
    rcases List.mem_cons.1 ho' with rfl | ho'
    · exact (hb b hx).1
    · exact h.mine b (mem_blks.2 ⟨o', ho', hx⟩)
theorem Inv.tail {o : Ob} (h : Inv K p (o :: σ) w) : Inv K p σ w := (h.perm (List.perm_append_comm (l₁ := [o]) (l₂ := σ))).less
/-- One block is written, that of the object ahead. -/
theorem Inv.write {o o' : Ob} {w' : World} {p' : Addr → Prop} {b : Nat} (h : Inv K p (o :: σ) w) (hb : o.blk = some b) (hb' : o'.blk = some b) (g : Grow p w p' w') (hnew : ∀ a, p' a → p a ∨ a.block = b) (ho : ObOk p' w' o') (hpub : ∀ a, p' a → ∃ v, w'.cell? a = some v)
    (hos : w'.os = w.os) (ht : w'.tape = w.tape) (hou : w'.output = w.output) (hsz : w'.heap.size = w.heap.size) (hbl : ∀ k, k ≠ b → w'.heap[k]? = w.heap[k]?) : Inv K p' (o' :: σ) w' := by
  have hn := h.nd
  have hm := h.mine b (mem_blks.2 ⟨o, List.mem_cons_self .., hb⟩)
  have hne : b ∉ blks σ := by
    simp only [blks, List.filterMap_cons, hb, List.nodup_cons] at hn
    exact hn.1
  have key : ∀ o'' ∈ σ, ∀ k, o''.blk = some k → k ≠ b := fun o'' ho'' k hk e => hne (mem_blks.2 ⟨o'', ho'', e ▸ hk⟩)
  refine ⟨fun o'' ho'' => ?_, ?_, fun k hk => ?_, hpub, h.gr.tr g, fun a ha => ?_, hos.trans h.os, ht.trans h.tape, hou.trans h.output, hsz ▸ h.size, fun k hk hF => ?_⟩
  · rcases List.mem_cons.1 ho'' with rfl | ho''
    · exact ho
    · exact (h.tail.ok o'' ho'').keep g (fun k hk => hbl k (key o'' ho'' k hk)) fun a k ha hk hak => (hnew a ha).resolve_right fun e => key o'' ho'' k hk (hak ▸ e)
  · simp only [blks, List.filterMap_cons, hb, hb', List.nodup_cons] at hn ⊢
    exact hn
  · obtain ⟨o'', ho'', hx⟩ := mem_blks.1 hk
    rcases List.mem_cons.1 ho'' with rfl | ho''
    · rw [hb'] at hx; injection hx with hx; exact hx ▸ hm
    · exact h.mine k (mem_blks.2 ⟨o'', List.mem_cons_of_mem _ ho'', hx⟩)
  · rcases hnew a ha with h1 | h1
    · exact h.neu a h1
    · rw [h1]; exact .inr hm
  · refine (hbl k fun e => ?_).trans (h.block k hk hF)
    subst e
    rcases hm with h1 | h1
    · omega
    · exact hF h1
end
end Go.Proofs.Ytlannippingfdaa


namespace Go.Proofs.Ytlannippingfdaa
set_option maxRecDepth 100000
open Go.RowKit

def constD : Value → Option D
  | .bool b => some (.bool b)
  | .int k n => some (.int k n)
  | .string s => some (.str s)
  | .slice none 0 0 => some (.full [])
  | .nilFunc => some .nilf
  | .map none => some .nilm
  | .pointer none => some .nilp
  | .nilIface => some .nili
  | _ => none
def ev (env : Env) : Operand → Option D
  | .tmp t => lk env t
  | .const v => constD v
  | .func f => some (.clo (.func f) [] [])
  | .global _ => none
/-- The constants lie in their kinds. -/
def okVal : Value → Bool
  | .int k n => k.wrap n == n
  | .string s => decide (s.size ≤ 9223372036854775807)
  | _ => true
def okOpnd : Operand → Bool
  | .const v => okVal v
  | _ => true

def RelEnv (p : Addr → Prop) (w : World) (env : Env) (a : Act) : Prop := ∀ t d, lk env t = some d → Rep p w d (a.tmps.getD t Go.undef)
theorem RelEnv.grow {p p' : Addr → Prop} {w w' : World} {env : Env} {a : Act} (h : RelEnv p w env a) (g : Grow p w p' w') : RelEnv p' w' env a := fun t d ht => (h t d ht).grow g
theorem constD_rep {p : Addr → Prop} {w : World} {v : Value} {d : D} (h : constD v = some d) (ho : okVal v = true) : Rep p w d v := by
  unfold constD at h
  split at h <;> first | (injection h with h; subst h) | (cases h; done)
  · simp only [Rep]
  · simpa [Rep, okVal] using ho
  · simpa [Rep, okVal] using ho
  · simp only [Rep]; exact ⟨none, [], rfl, by simp, .inl rfl, Reps.nil _ _, by simp⟩
  · simp only [Rep]
  · simp only [Rep]
  · simp only [Rep]
  · simp only [Rep]
theorem ev_rep {p : Addr → Prop} {w : World} {env : Env} {a : Act} (h : RelEnv p w env a) {x : Operand} {d : D} (hx : ev env x = some d) (ho : okOpnd x = true) : Rep p w d (a.eval x) := by
  cases x with
  | tmp t => exact h t d hx
  | const v => exact constD_rep hx ho
  | func f =>
    injection hx with hx
    subst hx
    simp only [Rep]
    exact ⟨[], [], rfl, Repl.nil _ _, Repl.nil _ _⟩
  | global g => cases hx

theorem look_cons (k : Nat) (d : D) (env : Env) (s : Nat) : lk ((k, d) :: env) s = if k = s then some d else lk env s := by
  simp only [lk]
  by_cases h : k = s
  · subst h; simp
  · rw [if_neg h]
    have : Nat.beq k s = false := by
      cases hb : Nat.beq k s
      · rfl
      · exact absurd (Nat.eq_of_beq_eq_true hb) h
    rw [this]; rfl
/-- A slot is filled. -/
def Env.put (env : Env) (dst : Option Tmp) (d : D) : Env := match dst with
  | some t => (t, d) :: env
  | none => env
theorem RelEnv.put {p : Addr → Prop} {w : World} {env : Env} {a : Act} {dst : Option Tmp} {d : D} {v : Value} (h : RelEnv p w env a) (hv : Rep p w d v) (hd : ∀ t, dst = some t → t < a.tmps.size) : RelEnv p w (env.put dst d) (a.put dst v) := by
  cases dst with
  | none => exact h
  | some t =>
    intro s e hs
    rw [Env.put, look_cons] at hs
    simp only [Act.put]
    by_cases hts : t = s
    · subst hts
      rw [if_pos rfl] at hs
      injection hs with hs
      subst hs
      simpa [hd t rfl] using hv
    · rw [if_neg hts] at hs
      have := h s e hs
      simpa [Array.getElem?_setIfInBounds_ne hts] using this

/-- Slots are let go, and weaker data taken. -/
def Sub (env' env : Env) : Prop := ∀ t d, lk env' t = some d → ∃ e, lk env t = some e ∧ Wk e d
theorem Sub.nil (env : Env) : Sub [] env := fun _ _ h => by cases h
theorem Sub.cons {env' env : Env} {k : Nat} {d e : D} (h : lk env k = some e) (hw : Wk e d) (hs : Sub env' env) : Sub ((k, d) :: env') env := fun t d' ht => by
  rw [look_cons] at ht
  by_cases hk : k = t
  · subst hk
    rw [if_pos rfl] at ht
    injection ht with ht
    subst ht
    exact ⟨e, h, hw⟩
  · rw [if_neg hk] at ht
    exact hs t d' ht
theorem Sub.cons' {env' env : Env} {k : Nat} {d : D} (h : lk env k = some d) (hs : Sub env' env) : Sub ((k, d) :: env') env := Sub.cons h (Wk.refl d) hs
theorem RelEnv.sub {p : Addr → Prop} {w : World} {env env' : Env} {a : Act} (h : RelEnv p w env a) (hs : Sub env' env) : RelEnv p w env' a := fun t d ht =>
  let ⟨e, h1, h2⟩ := hs t d ht
  h2 _ _ _ (h t e h1)

theorem addF (b o k : Nat) : (⟨b, o, none⟩ : Addr).add k = ⟨b, o + k, none⟩ := by
  unfold Addr.add; split
  · rename_i h; simp [h]
  · rfl

/-- In what kind of frame a walk is: in a round of a range over a function (its record), behind such ranges (the blocks of their deferred calls). -/
structure Md where
  rd : Option Nat
  ms : List Nat
  /-- calls that are deferred -/
  ds : List Deferred
  /-- how it was called -/
  kd : CallKind
abbrev Md.top : Md := ⟨none, [], [], .normal⟩
/-- A frame of the kind is about to end so. -/
def LeavesAs (kd : CallKind) (P : Program) (fr : Frame) (w : World) : Ending → Prop
  | .returned v => fr.mode = .returning ∧ fr.defers = [] ∧ fr.kind = kd ∧ ∃ fn, P.funcs[fr.fn]? = some fn ∧ (results fn fr.tmps).run P w = .ok v w
  | .panicked chain => fr.mode = .panicking chain ∧ fr.defers = [] ∧ ∃ fn, P.funcs[fr.fn]? = some fn
  | .outgrown => True
theorem LeavesAs.normal {P : Program} {fr : Frame} {w : World} {e : Ending} (h : LeavesAs .normal P fr w e) : fr.leaving P w e := by
  cases e with
  | returned v => exact h
  | panicked c => exact h
  | outgrown => trivial
def Md.marks (m : Md) : List Deferred := m.ds ++ m.ms.map fun D => { target := .collected D, args := #[] }
/-- What a frame comes to: its end, or, in a round, the next step of its caller. -/
def Fin (rd : Option Nat) (kd : CallKind) (P : Program) (f : FuncId) (K : Ctx) (R : D → St → Prop) (fr0 : Frame) (cs : List Frame) (w : World) : Prop :=
  match rd with
  | none => ∃ e w' fr, Left K R e w' ∧ Comes P (lone fr0 cs w) (lone fr cs w') e ∧ fr.fn = f ∧ LeavesAs kd P fr w' e
  | some _ => ∀ c cs', cs = c :: cs' → ∃ v w', Left K R (.returned v) w' ∧ Steps P (lone fr0 cs w) (lone (c.finish v) cs' w')
theorem Fin.of_steps {rd : Option Nat} {kd : CallKind} {P : Program} {f : FuncId} {K : Ctx} {R : D → St → Prop} {fr0 fr1 : Frame} {cs : List Frame} {w w1 : World} (hs : Steps P (lone fr0 cs w) (lone fr1 cs w1)) (h : Fin rd kd P f K R fr1 cs w1) : Fin rd kd P f K R fr0 cs w := by
  cases rd with
  | none =>
    obtain ⟨e, w', fr, h1, h2, h3, h4⟩ := h
    exact ⟨e, w', fr, h1, .of_steps hs h2, h3, h4⟩
  | some l =>
    intro c cs' hc
    obtain ⟨v, w', h1, h2⟩ := h c cs' hc
    exact ⟨v, w', h1, hs.trans h2⟩
/-- In every frame of the kind. -/
def Rest (m : Md) (P : Program) (f : FuncId) (fn : Func) (K : Ctx) (R : D → St → Prop) (k : List Item) (a : Act) (w : World) : Prop :=
  ∀ (b : Frame) (cs : List Frame), b.fn = f → b.kind = m.kd → b.roundOf = m.rd → P.funcs[f]? = some fn → Fin m.rd m.kd P f K R (b.atR a k) cs w
/-- From these items on the function comes to its end, leaving what R says. -/
def GoesG (m : Md) (P : Program) (f : FuncId) (fn : Func) (K : Ctx) (R : D → St → Prop) (k : List Item) (env : Env) (σ : St) : Prop :=
  ∀ (p : Addr → Prop) (a : Act) (w : World), Inv K p σ w → RelEnv p w env a → fn.ntmps ≤ a.tmps.size → a.defers = m.marks → Rest m P f fn K R k a w
abbrev Goes (P : Program) (f : FuncId) (fn : Func) (K : Ctx) (R : D → St → Prop) (k : List Item) : Env → St → Prop := GoesG Md.top P f fn K R k

/-- The fence of a walk. -/
def fw : Option Nat → Fence
  | none => Fence.wide
  | some l => Fence.wide.inRound l
theorem fw_round (rd : Option Nat) : (fw rd).round = rd := by cases rd <;> rfl
theorem fw_fn (rd : Option Nat) (f : FuncId) : (fw rd).fn f := by cases rd <;> trivial
theorem fw_room (rd : Option Nat) (n : Nat) : (fw rd).room n := by cases rd <;> exact room_wide _
theorem fw_steps {rd : Option Nat} {P : Program} {m m' : Machine} (h : StepsIn (Machine.fenced P (fw rd)) P m m') : Steps P m m' := by
  cases rd <;> exact stepsIn_wide.1 h
theorem fw_calls {rd : Option Nat} {n : Nat} {P : Program} {f : FuncId} {args : Array Value} {w : World} {R : Ending → World → Prop} (h : Calls P f args w R) : CallsIn (fw rd) n P f args w R := by
  cases rd with
  | none => exact callsIn_wide.2 h
  | some l => exact CallsIn.inRound l (callsIn_wide.2 h)

section
variable {m : Md} {P : Program} {f : FuncId} {fn : Func} {K : Ctx} {R : D → St → Prop} {k : List Item} {env : Env} {σ : St}

theorem g_step {k' : List Item} (hs : ∀ (b : Frame) (a : Act) (cs : List Frame) (w : World), step P (lone (b.atR a k) cs w) = .next (lone (b.atR a k') cs w)) (h : GoesG m P f fn K R k' env σ) : GoesG m P f fn K R k env σ :=
  fun p a w hi hr hn hd b cs hb hk hro hf => .of_steps (.one (hs b a cs w)) (h p a w hi hr hn hd b cs hb hk hro hf)
theorem g_seq {x y : Code} (h : GoesG m P f fn K R (.code x :: .code y :: k) env σ) : GoesG m P f fn K R (.code (.seq x y) :: k) env σ := g_step (fun _ _ _ _ => stepR_seq) h
theorem g_skip (h : GoesG m P f fn K R k env σ) : GoesG m P f fn K R (.code .skip :: k) env σ := g_step (fun _ _ _ _ => stepR_skip) h
theorem g_inBlock {id : Nat} (h : GoesG m P f fn K R k env σ) : GoesG m P f fn K R (.inBlock id :: k) env σ := g_step (fun _ _ _ _ => stepR_inBlock) h
theorem g_block {id : Nat} {c : Code} (h : GoesG m P f fn K R (.code c :: .inBlock id :: k) env σ) : GoesG m P f fn K R (.code (.block id c) :: k) env σ := g_step (fun _ _ _ _ => stepR_block) h
theorem g_exit {id : Nat} {k' : List Item} (he : exitTo id k = some k') (h : GoesG m P f fn K R k' env σ) : GoesG m P f fn K R (.code (.exit id) :: k) env σ := g_step (fun _ _ _ _ => stepR_exit he) h
theorem g_inLoop {c : Code} (h : GoesG m P f fn K R (.code c :: .inLoop c :: k) env σ) : GoesG m P f fn K R (.inLoop c :: k) env σ := g_step (fun _ _ _ _ => stepR_inLoop) h
theorem g_cond {c : Operand} {x y : Code} {t : Bool} (hc : ev env c = some (.bool t)) (ho : okOpnd c = true) (h1 : t = true → GoesG m P f fn K R (.code x :: k) env σ) (h2 : t = false → GoesG m P f fn K R (.code y :: k) env σ) : GoesG m P f fn K R (.code (.cond c x y) :: k) env σ :=
  fun p a w hi hr hn hd b cs hb hk hro hf => by
    have hv := ev_rep hr hc ho
    simp only [Rep] at hv
    have hs := stepR_cond (P := P) (b := b) (k := k) (cs := cs) (w := w) (x := x) (y := y) hv
    cases t with
    | true => exact .of_steps (.one hs) (h1 rfl p a w hi hr hn hd b cs hb hk hro hf)
    | false => exact .of_steps (.one hs) (h2 rfl p a w hi hr hn hd b cs hb hk hro hf)
theorem g_loop {c : Code} (I : Nat → Env → St → Prop) (n : Nat) (h0 : I n env σ) (round : ∀ n env σ, I n env σ → (∀ m' env' σ', m' < n → I m' env' σ' → GoesG m P f fn K R (.inLoop c :: k) env' σ') → GoesG m P f fn K R (.code c :: .inLoop c :: k) env σ) : GoesG m P f fn K R (.code (.loop c) :: k) env σ := by
  refine g_step (fun _ _ _ _ => stepR_loop) ?_
  have key : ∀ n env σ, I n env σ → GoesG m P f fn K R (.code c :: .inLoop c :: k) env σ := by
    intro n
    induction n using Nat.strongRecOn with
    | _ n ih => exact fun env σ hI => round n env σ hI fun m env' σ' hm hI' => g_inLoop (ih m hm env' σ' hI')
  exact key n env σ h0
/-- Slots are let go. -/
theorem g_sub (env' : Env) (hs : Sub env' env) (h : GoesG m P f fn K R k env' σ) : GoesG m P f fn K R k env σ := fun p a w hi hr => h p a w hi (hr.sub hs)
/-- Objects are let go, or taken in another order. -/
theorem g_perm (σ' τ : St) (hs : σ.Perm (σ' ++ τ)) (h : GoesG m P f fn K R k env σ') : GoesG m P f fn K R k env σ := fun p a w hi => h p a w ((hi.perm hs).less)
/-- What a walk of operations comes to: on with Q, or dead of a panic of which X holds. -/
def EndsR (P : Program) (K : Ctx) (n : Nat) (m : Md) (X : Env → D → St → Prop) (Q : Env → St → Prop) : Exit → Act → World → Prop := fun e a' w' =>
  (e = .normal ∧ ∃ env' σ' p', Q env' σ' ∧ Inv K p' σ' w' ∧ RelEnv p' w' env' a' ∧ n ≤ a'.tmps.size ∧ a'.defers = m.marks) ∨ ∃ v d τ p' env', e = .panic [{ v, recovered := false }] ∧ X env' d τ ∧ Rep p' w' d v ∧ Inv K p' τ w' ∧ RelEnv p' w' env' a' ∧ a'.defers = m.marks
/-- What a region leaves. -/
theorem g_region {id : Nat} {ops : Array Oper} {dr : Bool} {Q : Env → St → Prop} {X : Env → D → St → Prop} (h : ∀ (p : Addr → Prop) (a : Act) (w : World), Inv K p σ w → RelEnv p w env a → fn.ntmps ≤ a.tmps.size → a.defers = m.marks → (Code.region id ops dr).wpIn (fw m.rd) 0 P (EndsR P K fn.ntmps m X Q) a w)
    (hX : ∀ e d τ, X e d τ → K.X d τ ∧ m = Md.top) (hq : ∀ env' σ', Q env' σ' → GoesG m P f fn K R k env' σ') : GoesG m P f fn K R (.code (.region id ops dr) :: k) env σ := fun p a w hi hr hn hd b cs hb hk hro hf => by
  obtain ⟨e, a', w', hE, harr⟩ := h p a w hi hr hn hd b k cs (hro.trans (fw_round _).symm) (fw_fn _ _) (fw_room _ _)
  rcases hE with ⟨rfl, env', σ', p', q, i1, i2, i3, i4⟩ | ⟨v, d, τ, p', env', rfl, hx, hv, hi', _, hd'⟩
  · exact .of_steps (fw_steps harr) (hq env' σ' q p' a' w' i1 i2 i3 i4 b cs hb hk hro hf)
  · obtain ⟨todo, hs⟩ := harr
    obtain ⟨hx, rfl⟩ := hX env' d τ hx
    exact ⟨.panicked [{ v, recovered := false }], w', { b.atR a' todo with mode := .panicking [{ v, recovered := false }] }, .inr ⟨v, d, τ, p', rfl, hx, hv, hi'⟩, fw_steps hs, hb, rfl, hd', fn, by rw [← hb] at hf; exact hf⟩
/-- A fact about what the slots show. -/
theorem g_fact {C : Prop} (hC : ∀ (p : Addr → Prop) (a : Act) (w : World), Inv K p σ w → RelEnv p w env a → C) (h : C → GoesG m P f fn K R k env σ) : GoesG m P f fn K R k env σ := fun p a w hi hr => h (hC p a w hi hr) p a w hi hr

/-! ### the end -/
/-- The variable at the address can be read as d. -/
def isAggDesc : TypeDesc → Bool
  | .struct _ | .array _ _ => true
  | _ => false
def Ty (P : Program) (t : TypeId) (b : Bool) (n : Nat) : Prop := (∃ x, P.underlying t = some x ∧ isAggDesc x = b) ∧ (P.info? t).map (·.size) = some n
theorem run_isAgg {t : TypeId} {b : Bool} {n : Nat} (h : Ty P t b n) (w : World) : (isAgg t).run P w = .ok b w := by
  obtain ⟨⟨x, hx, hb⟩, _⟩ := h
  unfold isAgg
  simp only [Sem.run_bind, run_underlying hx, Result.andThen_ok]
  cases x <;> simp_all [isAggDesc]
theorem run_sizeOf {t : TypeId} {b : Bool} {n : Nat} (h : Ty P t b n) (w : World) : (sizeOf t).run P w = .ok n w := by
  obtain ⟨_, hs⟩ := h
  obtain ⟨i, hi, hn⟩ := Option.map_eq_some_iff.1 hs
  simp [sizeOf, typeInfo, hi, hn]
/-- Cells that read so are read as the value. -/
theorem run_loadVar {t : TypeId} {n : Nat} {d : D} {p : Addr → Prop} {w : World} {u : Value} {b o : Nat} (ht : Ty P t d.isAgg n) (hn : sz d = n) (hu : Rep p w d u) (hc : ∀ j x, u.cells.toList[j]? = some x → w.cell? ⟨b, o + j, none⟩ = some x) : (loadVar t ⟨b, o, none⟩).run P w = .ok u w := by
  have hs := Rep.sz hu
  have hback := Rep.back hu
  unfold loadVar
  simp only [Sem.run_bind, run_isAgg ht, Result.andThen_ok]
  have hc' : ∀ j v, u.cells.toList[j]? = some v → w.cell? ((⟨b, o, none⟩ : Addr).add j) = some v := fun j v hv => by rw [addF]; exact hc j v hv
  cases hd : d.isAgg with
  | true =>
    have hl := run_loadCells_list (P := P) w ⟨b, o, none⟩ u.cells.toList hc'
    rw [Array.length_toList, hs, hn] at hl
    simp only [if_true, Sem.run_bind, run_sizeOf ht, Result.andThen_ok, hl]
    rw [hback]
    cases d <;> simp [D.isAgg] at hd
    simp [reval, Value.cells]
  | false =>
    simp only [Bool.false_eq_true, if_false]
    have h1 : u.cells.toList[0]? = some u := by
      cases d <;> simp [D.isAgg] at hd <;> simp only [Rep] at hu
      case tup => obtain ⟨vs, rfl, _⟩ := hu; simp [Value.cells]
      case undef => subst hu; simp [Value.cells, Go.undef]
      case bool => subst hu; simp [Value.cells]
      case int => rw [hu.1]; simp [Value.cells]
      case str => rw [hu.1]; simp [Value.cells]
      case lst => obtain ⟨A, c, xs, rfl, _⟩ := hu; simp [Value.cells]
      case full => obtain ⟨A, xs, rfl, _⟩ := hu; simp [Value.cells]
      case own => obtain ⟨rfl, A, c, xs, rfl, _⟩ := hu; simp [Value.cells]
      case ptr => obtain ⟨b, o, u, rfl, _⟩ := hu; simp [Value.cells]
      case ref => subst hu; simp [Value.cells]
      case mref => subst hu; simp [Value.cells]
      case arr => obtain ⟨A, c, rfl, _⟩ := hu; simp [Value.cells]
      case vec => obtain ⟨rfl, A, c, rfl, _⟩ := hu; simp [Value.cells]
      case clo => obtain ⟨fs, cs, rfl, _⟩ := hu; simp [Value.cells]
      case nilf => subst hu; simp [Value.cells]
      case nilm => subst hu; simp [Value.cells]
      case nilp => subst hu; simp [Value.cells]
      case map => subst hu; simp [Value.cells]
      case ifc => obtain ⟨u, rfl, _⟩ := hu; simp [Value.cells]
      case nili => subst hu; simp [Value.cells]
    have h2 := hc 0 u h1
    simp only [Nat.add_zero] at h2
    simp [h2]

/-- What a result is. -/
def ResD (P : Program) (env : Env) (σ : St) : ResultVar → D → Prop
  | .tmp t, d => ∃ e, lk env t = some e ∧ Wk e d
  | .cell t ty, d => ∃ e n, Wk e d ∧ Ty P ty e.isAgg n ∧ sz e = n ∧ (lk env t = some (.ptr e) ∨ ∃ b, lk env t = some (.ref b 0 []) ∧ .cell b e ∈ σ)
inductive ResDs (P : Program) (env : Env) (σ : St) : List ResultVar → List D → Prop
  | nil : ResDs P env σ [] []
  | cons {r : ResultVar} {d : D} {rs : List ResultVar} {ds : List D} (h : ResD P env σ r d) (k : ResDs P env σ rs ds) : ResDs P env σ (r :: rs) (d :: ds)
def packD : List D → D
  | [d] => d
  | ds => .tup ds

def getR (a : Act) : ResultVar → Sem Value
  | .tmp t => pure (a.tmps.getD t Go.undef)
  | .cell x t => do loadVar t (← asAddr (a.tmps.getD x Go.undef))
theorem run_result {p : Addr → Prop} {a : Act} {w : World} (hi : Inv K p σ w) (hr : RelEnv p w env a) {r : ResultVar} {d : D} (h : ResD P env σ r d) :
    ∃ v, (getR a r).run P w = .ok v w ∧ Rep p w d v := by
  cases r with
  | tmp t =>
    obtain ⟨e, h1, h2⟩ := h
    exact ⟨_, by simp [getR], h2 _ _ _ (hr t e h1)⟩
  | cell t ty =>
    obtain ⟨e, n, hw, ht, hn, h1 | ⟨b, h1, h2⟩⟩ := h
    · have := hr t _ h1
      simp only [Rep] at this
      obtain ⟨b, o, u, h3, h4, h5, h6⟩ := this
      have hl := run_loadVar (P := P) (b := b) (o := o) ht hn h5 (fun j x hx => by
        rcases h4 with h4 | ⟨b', o', h4, h7⟩
        · rw [h4] at hx; simp at hx
        · injection h4 with h4; injection h4 with h4 h8; subst h4 h8; exact (h7 j x hx).2)
      exact ⟨u, by simp only [getR, h3, asAddr, Sem.run_bind, Sem.run_pure, Result.andThen_ok, hl], hw _ _ _ h5⟩
    · have := hr t _ h1
      simp only [Rep] at this
      obtain ⟨u, ty', h3, h4, h5, h6⟩ := hi.ok _ h2
      have hl := run_loadVar (P := P) (b := b) (o := 0) ht hn h3 (fun j x hx => by
        rw [cell_of_row _ _ _ _ _ _ h5]
        simpa using hx)
      exact ⟨u, by simp only [getR, this, asAddr, Sem.run_bind, Sem.run_pure, Result.andThen_ok, hl], hw _ _ _ h3⟩
theorem run_results {p : Addr → Prop} {a : Act} {w : World} (hi : Inv K p σ w) (hr : RelEnv p w env a) : ∀ {rs : List ResultVar} {ds : List D}, ResDs P env σ rs ds →
    ∃ vs : List Value, (rs.mapM (getR a)).run P w = .ok vs w ∧ Repl p w ds vs
  | _, _, .nil => ⟨[], by simp, Repl.nil _ _⟩
  | _, _, .cons h k => by
    obtain ⟨v, h1, h2⟩ := run_result hi hr h
    obtain ⟨vs, h3, h4⟩ := run_results hi hr k
    exact ⟨v :: vs, by simp only [List.mapM_cons, Sem.run_bind, h1, Result.andThen_ok, h3, Sem.run_pure], Repl.cons h2 h4⟩
theorem results_run {p : Addr → Prop} {a : Act} {w : World} (hi : Inv K p σ w) (hr : RelEnv p w env a) {ds : List D} (h : ResDs P env σ fn.results.toList ds) : ∃ v, (results fn a.tmps).run P w = .ok v w ∧ Rep p w (packD ds) v := by
  obtain ⟨vs, h1, h2⟩ := run_results hi hr h
  have e : results fn a.tmps = (do let vs ← fn.results.mapM (getR a); pure (if h : vs.size = 1 then vs[0] else .tuple vs)) := by
    unfold results
    congr 1
  rw [e]
  have e2 : (fn.results.mapM (getR a)).run P w = .ok vs.toArray w := by
    rw [Array.mapM_eq_mapM_toList]
    simp [h1]
  simp only [Sem.run_bind, e2, Result.andThen_ok, Sem.run_pure]
  refine ⟨_, rfl, ?_⟩
  match ds, vs, h2 with
  | [], vs, h2 =>
    simp only [Repl] at h2
    subst h2
    simp only [packD, Rep, Repl]
    exact ⟨[], rfl, rfl⟩
  | [d], vs, h2 =>
    simp only [Repl] at h2
    obtain ⟨v, rest, rfl, h3, rfl⟩ := h2
    simpa [packD] using h3
  | d :: e :: ds, vs, h2 =>
    have h2' := h2
    simp only [Repl] at h2
    obtain ⟨v, rest, rfl, h3, u, rest', rfl, h4, h5⟩ := h2
    simp only [packD, Rep]
    refine ⟨v :: u :: rest', by simp, h2'⟩

theorem left_of {p : Addr → Prop} {a : Act} {w : World} {ds : List D} (hi : Inv K p σ w) (hr : RelEnv p w env a) (hd : a.defers = []) (hf : P.funcs[f]? = some fn) (hds : ResDs P env σ fn.results.toList ds) (hR : R (packD ds) σ) (b : Frame) {kd : CallKind} (hb : b.fn = f) (hk : b.kind = kd) (todo : List Item) :
    ∃ e, Left K R e w ∧ LeavesAs kd P ({ b.atR a todo with mode := .returning } : Frame) w e ∧ e ≠ .outgrown := by
  obtain ⟨v, h1, h2⟩ := results_run (fn := fn) hi hr hds
  exact ⟨.returned v, .inl ⟨v, _, σ, p, rfl, hR, h2, hi⟩, ⟨rfl, hd, hk, fn, by rw [← hb] at hf; exact hf, h1⟩, fun h => by cases h⟩
theorem g_ret (_ : P.funcs[f]? = some fn) (ds : List D) (hds : ResDs P env σ fn.results.toList ds) (hR : R (packD ds) σ) : Goes P f fn K R (.code .ret :: k) env σ := fun p a w hi hr hn hd b cs hb hk hro hf => by
  obtain ⟨e, h1, h2, h3⟩ := left_of (R := R) hi hr hd hf hds hR b hb hk (.code .ret :: k)
  refine ⟨e, w, { b.atR a (.code .ret :: k) with mode := .returning }, h1, ?_, hb, h2⟩
  cases e with
  | returned v => exact Steps.one (stepR_ret hro)
  | panicked c => exact Steps.one (stepR_ret hro)
  | outgrown => exact absurd rfl h3
theorem g_end (_ : P.funcs[f]? = some fn) (ds : List D) (hds : ResDs P env σ fn.results.toList ds) (hR : R (packD ds) σ) : Goes P f fn K R [] env σ := fun p a w hi hr hn hd b cs hb hk hro hf => by
  obtain ⟨e, h1, h2, h3⟩ := left_of (R := R) hi hr hd hf hds hR b hb hk []
  refine ⟨e, w, { b.atR a [] with mode := .returning }, h1, ?_, hb, h2⟩
  cases e with
  | returned v => exact Steps.one (stepR_end hro)
  | panicked c => exact Steps.one (stepR_end hro)
  | outgrown => exact absurd rfl h3

/-- The slots that a call fills. -/
def argEnv : Nat → List D → Env
  | _, [] => []
  | i, d :: ds => (i, d) :: argEnv (i + 1) ds
theorem look_argEnv : ∀ (ds : List D) (i t : Nat) (d : D), lk (argEnv i ds) t = some d → i ≤ t ∧ ds[t - i]? = some d
  | [], _, _, _, h => by cases h
  | e :: ds, i, t, d, h => by
    rw [argEnv, look_cons] at h
    by_cases hi : i = t
    · subst hi
      rw [if_pos rfl] at h
      exact ⟨Nat.le_refl _, by simpa using h⟩
    · rw [if_neg hi] at h
      obtain ⟨h1, h2⟩ := look_argEnv ds (i + 1) t d h
      refine ⟨by omega, ?_⟩
      have : t - i = (t - (i + 1)) + 1 := by omega
      rw [this]
      simpa using h2
/-- A function's contract, from the walk of its body. -/
theorem spec_of {c : Code} {ds : List D} (hf : P.funcs[f]? = some fn) (hb : fn.body = some c) (h : ∀ K, (K.F0 = fun b => b ∈ blks σ) → Goes P f fn K R [.code c] (argEnv 0 ds) σ) : Spec P f ds σ R := by
  intro w p vs hi hv cs
  let b : Frame := { (default : Frame) with fn := f, kind := .normal, roundOf := none }
  have henter : Frame.enter P f vs.toArray .normal = b.atR { tmps := vs.toArray ++ Array.replicate (fn.ntmps - vs.toArray.size) undef, defers := [] } [.code c] := by
    simp [Frame.enter, Frame.atR, hf, hb, b]
  rw [henter]
  suffices hS : Fin none .normal P f (ctx w p σ) R (b.atR { tmps := vs.toArray ++ Array.replicate (fn.ntmps - vs.toArray.size) undef, defers := [] } [.code c]) cs w by
    obtain ⟨e, w', fr, h1, h2, h3, h4⟩ := hS
    exact ⟨e, w', fr, h1, h2, h3, h4.normal⟩
  refine h (ctx w p σ) rfl p _ w hi ?_ ?_ rfl b cs rfl rfl rfl hf
  · intro t d ht
    obtain ⟨_, h2⟩ := look_argEnv ds 0 t d ht
    obtain ⟨v, h3, h4⟩ := hv.at_ h2
    have : (vs.toArray ++ Array.replicate (fn.ntmps - vs.toArray.size) Go.undef).getD t Go.undef = v := by
      have hlt := (List.getElem?_eq_some_iff.1 h3).1
      have h5 : vs[t]? = some v := by simpa using h3
      rw [Array.getD_eq_getD_getElem?, Array.getElem?_append_left (by simpa using hlt)]
      simp [h5]
    rw [this]
    exact h4
  · simp; omega
theorem spec_env {c : Code} {ds : List D} (env : Env) (hf : P.funcs[f]? = some fn) (hb : fn.body = some c) (he : argEnv 0 ds = env) (h : ∀ K, (K.F0 = fun b => b ∈ blks σ) → Goes P f fn K R [.code c] env σ) : Spec P f ds σ R := spec_of hf hb fun K hK => he ▸ h K hK
end
end Go.Proofs.Ytlannippingfdaa


namespace Go.Proofs.Ytlannippingfdaa
set_option maxRecDepth 100000
open Go.RowKit

/-- Is the operation carried out? (its guard) -/
def wantD (ops : Array Oper) (env : Env) (o : Oper) : Option Bool :=
  match o.guard with
  | none => some true
  | some (j, want) =>
    match (ops[j]?).bind (·.dst) with
    | none => none
    | some t =>
      match lk env t with
      | some (.bool b) => some (b == want)
      | some .undef => some false
      | _ => none
theorem wantD_spec {p : Addr → Prop} {w : World} {ops : Array Oper} {env : Env} {a : Act} {o : Oper} {b : Bool} (hr : ∀ t ∈ o.looksAt ops, ∀ d, lk env t = some d → Rep p w d (a.tmps.getD t Go.undef)) (h : wantD ops env o = some b) : Region.wanted o (yielded ops a.tmps) = b := by
  unfold wantD at h
  unfold Region.wanted
  cases hg : o.guard with
  | none => simp only [hg] at h ⊢; injection h
  | some jw =>
    obtain ⟨j, want⟩ := jw
    simp only [hg] at h ⊢
    unfold yielded
    cases hd : (ops[j]?).bind (·.dst) with
    | none => simp [hd] at h
    | some t =>
      simp only [hd] at h ⊢
      have hm : t ∈ o.looksAt ops := by simp [Oper.looksAt, hg, hd]
      cases hl : lk env t with
      | none => simp [hl] at h
      | some d =>
        have hv := hr t hm d hl
        simp only [hl] at h
        cases d <;> simp only [Rep] at hv <;> simp at h
        · rw [Array.getD_eq_getD_getElem?] at hv
          cases hq : a.tmps[t]? with
          | none => rw [hq] at hv; cases hv
          | some u =>
            rw [hq] at hv
            simp only [Option.getD_some] at hv
            subst hv h
            rename_i bb
            simp only [Option.bind_some, hq]
            cases want <;> cases bb <;> rfl
        · rw [Array.getD_eq_getD_getElem?] at hv
          subst h
          cases hq : a.tmps[t]? with
          | none => simp [hq]
          | some u =>
            rw [hq] at hv
            simp only [Option.getD_some] at hv
            subst hv
            simp [hq, Go.undef]

/-- An operation over data: what it leaves in its slot, and the objects. -/
def StepS (P : Program) (o : Oper) (ρ : Operand → Option D) (σ : St) (R : D → St → Prop) : Prop :=
  ∀ (K : Ctx) (p : Addr → Prop) (a : Act) (w : World), Inv K p σ w → (∀ x ∈ o.op.operands, ∀ d, ρ x = some d → Rep p w d (a.eval x)) →
    o.wp P a w (fun a' w' => ∃ v d σ' p', a' = a.put o.dst v ∧ R d σ' ∧ Rep p' w' d v ∧ Inv K p' σ' w' ∧ Grow p w p' w') (fun _ _ _ => False)
/-- .. whatever the objects are. -/
def StepD (P : Program) (o : Oper) (ρ : Operand → Option D) (d : D) : Prop := ∀ σ, StepS P o ρ σ fun d' σ' => d' = d ∧ σ' = σ

/-- .. in a frame of whatever kind; it may be a round of the caller's loop. -/
def StepY (P : Program) (o : Oper) (ρ : Operand → Option D) (σ : St) (R : D → St → Prop) : Prop :=
  ∀ (rd : Option Nat) (K : Ctx) (p : Addr → Prop) (a : Act) (w : World), Inv K p σ w → (∀ x ∈ o.op.operands, ∀ d, ρ x = some d → Rep p w d (a.eval x)) →
    o.wpIn (fw rd) 0 P a w (fun a' w' => ∃ v d σ' p', a' = a.put o.dst v ∧ R d σ' ∧ Rep p' w' d v ∧ Inv K p' σ' w' ∧ Grow p w p' w') (fun _ _ _ => False)
theorem put_defers' (a : Act) (dst : Option Tmp) (v : Value) : (a.put dst v).defers = a.defers := by cases dst <;> rfl
theorem fw_stepsIn {rd : Option Nat} {P : Program} {m m' : Machine} (h : Steps P m m') : StepsIn (Machine.fenced P (fw rd)) P m m' := by
  cases rd <;> exact stepsIn_wide.2 h
theorem upon_in {P : Program} {o : Oper} {a : Act} {rd : Option Nat} {N : Act → World → Prop} {Q : Exit → Act → World → Prop} {r : Result Next} (h : o.upon P a N Q r) : o.uponIn (fw rd) 0 P a N Q r := by
  have hd : (fw rd).depth.isSome = true → False := by cases rd <;> (intro h; cases h)
  unfold Oper.upon at h
  unfold Oper.uponIn
  split at h
  · exact h
  · exact h
  · exact h
  · exact ⟨fun h => (hd h).elim, fw_calls h⟩
  · refine ⟨fun h => (hd h).elim, fun c cs _ => ?_⟩
    obtain ⟨v, w', h1, h2⟩ := h c cs
    exact ⟨v, w', h1, fw_stepsIn h2⟩
  · exact h
  · exact h.elim
/-- In a frame of its own an operation goes as ever. -/
theorem wpIn_none {P : Program} {o : Oper} {a : Act} {w : World} {N : Act → World → Prop} {Q : Exit → Act → World → Prop} (h : o.wp P a w N Q) : o.wpIn (fw none) 0 P a w N Q :=
  ⟨fun f _ => fw_fn none f, upon_in h⟩
/-- An operation that defers nothing goes the same way in a round. -/
theorem StepS.y {P : Program} {o : Oper} {ρ : Operand → Option D} {σ : St} {R : D → St → Prop} (h : StepS P o ρ σ R) : StepY P o ρ σ R := fun rd K p a w hi hv => by
  have h0 := h K p a w hi hv
  cases rd with
  | none => exact wpIn_none h0
  | some l =>
    refine ⟨fun f _ => fw_fn _ f, ?_⟩
    by_cases hd : ∃ c, o.op = .defer c
    · obtain ⟨c, hc⟩ := hd
      exfalso
      unfold Oper.wp at h0
      simp only [execOp, hc, Sem.run_bind] at h0
      cases hr : (resolve a.eval c o.type).run P w with
      | ok d w' =>
        rw [hr] at h0
        obtain ⟨v, d', σ', p', e, _⟩ := h0
        have := congrArg Act.defers e
        rw [put_defers', put_defers'] at this
        have := congrArg List.length this
        simp at this
      | halt x w' =>
        rw [hr] at h0
        cases x <;> exact h0
    · rw [show (fw (some l)).round = some l from rfl, Oper.semAt_eq _ _ _ fun c hc => hd ⟨c, hc⟩]
      exact upon_in h0

/-- An operation that panics, with what d shows, and leaves the objects τ. -/
def DieT (P : Program) (o : Oper) (ρ : Operand → Option D) (σ τ : St) (d : D) : Prop :=
  ∀ (K : Ctx) (p : Addr → Prop) (a : Act) (w : World), Inv K p σ w → (∀ x ∈ o.op.operands, ∀ d, ρ x = some d → Rep p w d (a.eval x)) →
    o.wp P a w (fun _ _ => False) (fun e a' w' => ∃ v p', e = .panic [{ v, recovered := false }] ∧ a' = a ∧ Rep p' w' d v ∧ Inv K p' τ w' ∧ Grow p w p' w')
/-- No panic. -/
abbrev NX : Env → D → St → Prop := fun _ _ _ => False

inductive Cls where
  | d | r | w | x
  deriving DecidableEq
def Cls.isW : Cls → Bool
  | .w | .x => true
  | _ => false

section
variable {P : Program} {ops : Array Oper}
/-- The operations in a written order: d: it leaves the same whatever the objects are; r: it looks at the objects and leaves them; w: any other. -/
def Run (P : Program) (ops : Array Oper) (X : Env → D → St → Prop) (Q : Env → St → Prop) : List (Nat × Cls) → Env → St → Prop
  | [], env, σ => Q env σ
  | (i, c) :: l, env, σ => ∃ o, ops[i]? = some o ∧ ((wantD ops env o = some false ∧ Run P ops X Q l (env.put o.dst .undef) σ) ∨ (wantD ops env o = some true ∧ match c with
    | .d => ∃ d, StepD P o (ev env) d ∧ Run P ops X Q l (env.put o.dst d) σ
    | .r => ∃ d, StepS P o (ev env) σ (fun d' σ' => d' = d ∧ σ' = σ) ∧ Run P ops X Q l (env.put o.dst d) σ
    | .w => ∃ R, StepY P o (ev env) σ R ∧ ∀ d σ', R d σ' → Run P ops X Q l (env.put o.dst d) σ'
    | .x => ∃ R, StepY P o (ev env) σ R ∧ ∀ d σ', R d σ' → Run P ops X Q l (env.put o.dst d) σ') ∨ (wantD ops env o = some true ∧ ∃ e d τ, (∀ t, lk e t = lk env t) ∧ X e d τ ∧ DieT P o (ev env) σ τ d ∧ c.isW = true))
theorem run_mono {X : Env → D → St → Prop} {Q Q' : Env → St → Prop} (hq : ∀ e s, Q e s → Q' e s) : ∀ (l : List (Nat × Cls)) (env : Env) (σ : St), Run P ops X Q l env σ → Run P ops X Q' l env σ
  | [], _, _, h => hq _ _ h
  | (i, c) :: l, env, σ, h => by
    obtain ⟨o, ho, h⟩ := h
    refine ⟨o, ho, ?_⟩
    rcases h with ⟨hw, h⟩ | ⟨hw, h⟩ | h
    · exact .inl ⟨hw, run_mono hq l _ _ h⟩
    rotate_left
    · exact .inr (.inr h)
    · refine .inr (.inl ⟨hw, ?_⟩)
      cases c with
      | d => obtain ⟨d, h1, h2⟩ := h; exact ⟨d, h1, run_mono hq l _ _ h2⟩
      | r => obtain ⟨d, h1, h2⟩ := h; exact ⟨d, h1, run_mono hq l _ _ h2⟩
      | w => obtain ⟨R, h1, h2⟩ := h; exact ⟨R, h1, fun d σ' hR => run_mono hq l _ _ (h2 d σ' hR)⟩
      | x => obtain ⟨R, h1, h2⟩ := h; exact ⟨R, h1, fun d σ' hR => run_mono hq l _ _ (h2 d σ' hR)⟩

/-- Slots and constants. -/
def okOps (ops : Array Oper) (n : Nat) : Bool := ops.toList.all fun o => (match o.dst with | some t => decide (t < n) | none => true) && o.op.operands.toList.all okOpnd
theorem okOps_dst {n i : Nat} {o : Oper} (h : okOps ops n = true) (ho : ops[i]? = some o) (t : Nat) (ht : o.dst = some t) : t < n := by
  have hm : o ∈ ops.toList := List.mem_of_getElem? (by simpa using ho)
  have := List.all_eq_true.1 h o hm
  simp only [Bool.and_eq_true, ht, decide_eq_true_eq] at this
  exact this.1
theorem okOps_opnd {n i : Nat} {o : Oper} (h : okOps ops n = true) (ho : ops[i]? = some o) (x : Operand) (hx : x ∈ o.op.operands) : okOpnd x = true := by
  have hm : o ∈ ops.toList := List.mem_of_getElem? (by simpa using ho)
  have := List.all_eq_true.1 h o hm
  simp only [Bool.and_eq_true] at this
  exact List.all_eq_true.1 this.2 x (by simpa using hx)
theorem evs_rep {p : Addr → Prop} {w : World} {env : Env} {a : Act} {o : Oper} {n i : Nat} (h : okOps ops n = true) (ho : ops[i]? = some o) (hr : ∀ t ∈ o.looksAt ops, ∀ d, lk env t = some d → Rep p w d (a.tmps.getD t Go.undef)) : ∀ x ∈ o.op.operands, ∀ d, ev env x = some d → Rep p w d (a.eval x) := fun x hx d hd => by
  have hok := okOps_opnd h ho x hx
  cases x with
  | tmp t =>
    refine hr t ?_ d hd
    exact List.mem_append_left _ (List.mem_filterMap.2 ⟨.tmp t, by simpa using hx, rfl⟩)
  | const v => exact constD_rep hd hok
  | func f =>
    injection hd with hd
    subst hd
    simp only [Rep]
    exact ⟨[], [], rfl, Repl.nil _ _, Repl.nil _ _⟩
  | global g => cases hd

/-- What is kept from operation to operation. -/
def Good (K : Ctx) (n : Nat) (m : Md) (env : Env) (σ : St) (a : Act) (w : World) : Prop := ∃ p, Inv K p σ w ∧ RelEnv p w env a ∧ n ≤ a.tmps.size ∧ a.defers = m.marks

theorem put_size (a : Act) (dst : Option Tmp) (v : Value) : (a.put dst v).tmps.size = a.tmps.size := by cases dst <;> simp [Act.put]

/-- Other ends of an operation. -/
theorem uponIn_die {F : Fence} {n : Nat} {P : Program} {o : Oper} {a : Act} {r : Result Next} {N N' : Act → World → Prop} {Q Q' : Exit → Act → World → Prop} (hn : ∀ a' w', N a' w' → N' a' w') (hq : ∀ e a' w', Q e a' w' → Q' e a' w') (h : o.uponIn F n P a N Q r) : o.uponIn F n P a N' Q' r := by
  unfold Oper.uponIn at h ⊢
  split at h
  · exact hn _ _ h
  · exact hn _ _ h
  · exact hn _ _ h
  · refine ⟨h.1, CallsIn.mono h.2 fun e w' hh => ?_⟩
    cases e with
    | returned v => exact hn _ _ hh
    | panicked c => exact hq _ _ _ hh
    | outgrown => obtain ⟨a₀, w₀, hh⟩ := hh; exact ⟨a₀, w₀, hq _ _ _ hh⟩
  · exact ⟨h.1, RowsIn.mono h.2 fun v w' hh => hn _ _ hh⟩
  · refine ⟨h.1, RoundIn.mono h.2 fun e w' hh => ?_⟩
    cases e with
    | returned v => exact hn _ _ hh
    | panicked c => exact hq _ _ _ hh
    | outgrown => obtain ⟨a₀, w₀, hh⟩ := hh; exact ⟨a₀, w₀, hq _ _ _ hh⟩
  · exact hq _ _ _ h
  · exact h.elim
theorem wpIn_die {F : Fence} {n : Nat} {P : Program} {o : Oper} {a : Act} {w : World} {N N' : Act → World → Prop} {Q Q' : Exit → Act → World → Prop} (hn : ∀ a' w', N a' w' → N' a' w') (hq : ∀ e a' w', Q e a' w' → Q' e a' w') (h : o.wpIn F n P a w N Q) : o.wpIn F n P a w N' Q' :=
  ⟨h.1, uponIn_die hn hq h.2⟩
/-- The written order, where none is drawn. -/
theorem run_seq {n : Nat} {K : Ctx} {m : Md} {X : Env → D → St → Prop} {Q : Env → St → Prop} (hX : ∀ e d τ, X e d τ → m.rd = none) (hok : okOps ops n = true) : ∀ (l : List (Nat × Cls)) (env : Env) (σ : St) (a : Act) (w : World), Run P ops X Q l env σ → Good K n m env σ a w →
    wpOpsIn (fw m.rd) 0 P ops (EndsR P K n m X Q) (l.map (·.1)) a w
  | [], env, σ, a, w, h, ⟨p, h1, h2, h3, h4⟩ => .inl ⟨rfl, env, σ, p, h, h1, h2, h3, h4⟩
  | (i, c) :: l, env, σ, a, w, h, ⟨p, h1, h2, h3, h4⟩ => by
    obtain ⟨o, ho, h⟩ := h
    simp only [List.map_cons, wpOpsIn, ho]
    rcases h with ⟨hw, h⟩ | ⟨hw, h⟩ | ⟨hw, e₀, d, τ, he₀, hx, h, _⟩
    rotate_right
    · have := wantD_spec (a := a) (p := p) (w := w) (fun t _ d ht => h2 t d ht) hw
      rw [this]
      simp only [if_true]
      have hst := h K p a w h1 (evs_rep hok ho fun t _ d ht => h2 t d ht)
      rw [hX e₀ d τ hx]
      exact wpIn_die (fun a' w' hh => hh.elim) (fun e a' w' hh => by
        obtain ⟨v, p', rfl, rfl, hv, hi, hg⟩ := hh
        exact .inr ⟨v, d, τ, p', e₀, rfl, hx, hv, hi, fun t d' ht => (h2.grow hg) t d' (by rw [← he₀ t]; exact ht), h4⟩) (wpIn_none hst)
    · have := wantD_spec (a := a) (p := p) (w := w) (fun t _ d ht => h2 t d ht) hw
      rw [this]
      simp only [Bool.false_eq_true, if_false]
      exact ⟨fun f _ => fw_fn _ f, run_seq hX hok l _ σ _ w h ⟨p, h1, h2.put (by simp only [Rep]) fun t ht => Nat.lt_of_lt_of_le (okOps_dst hok ho t ht) h3, by rw [put_size]; exact h3, by rw [put_defers']; exact h4⟩⟩
    · have := wantD_spec (a := a) (p := p) (w := w) (fun t _ d ht => h2 t d ht) hw
      rw [this]
      simp only [if_true]
      have key : ∃ R, StepY P o (ev env) σ R ∧ ∀ d σ', R d σ' → Run P ops X Q l (env.put o.dst d) σ' := by
        cases c with
        | d => obtain ⟨d, hs, hk⟩ := h; exact ⟨_, (hs σ).y, fun d' σ' ⟨e1, e2⟩ => e1 ▸ e2 ▸ hk⟩
        | r => obtain ⟨d, hs, hk⟩ := h; exact ⟨_, hs.y, fun d' σ' ⟨e1, e2⟩ => e1 ▸ e2 ▸ hk⟩
        | w => exact h
        | x => exact h
      obtain ⟨R, hs, hk⟩ := key
      have hst := hs m.rd K p a w h1 (evs_rep hok ho fun t _ d ht => h2 t d ht)
      refine wpIn_die (fun a' w' hh => ?_) (fun _ _ _ hh => hh.elim) hst
      obtain ⟨v, d, σ', p', rfl, hR, hv, hi, hg⟩ := hh
      exact run_seq hX hok l _ σ' _ w' (hk d σ' hR) ⟨p', hi, (h2.grow hg).put hv fun t ht => Nat.lt_of_lt_of_le (okOps_dst hok ho t ht) h3, by rw [put_size]; exact h3, by rw [put_defers']; exact h4⟩
theorem g_run {f : FuncId} {fn : Func} {K : Ctx} {R : D → St → Prop} {k : List Item} {env : Env} {σ : St} {id : Nat} {l : List Oper} (hok : okOps l.toArray fn.ntmps = true) (ord : List (Nat × Cls)) (ho : ord.map (·.1) = List.range l.length)
    (h : Run P l.toArray (fun _ => K.X) (Goes P f fn K R k) ord env σ) : Goes P f fn K R (.code (.region id l.toArray false) :: k) env σ :=
  g_region (Q := Goes P f fn K R k) (X := fun _ => K.X) (fun p a w hi hr hn hd => by
    refine wpIn_region ?_
    have := run_seq (K := K) (m := Md.top) (fun _ _ _ _ => rfl) hok ord env σ a w h ⟨p, hi, hr, hn, hd⟩
    rw [ho] at this
    simpa using this) (fun _ _ _ h => ⟨h, rfl⟩) (fun _ _ h => h)
/-- .. in a frame of whatever kind; without panics. -/
theorem n_run {m : Md} {f : FuncId} {fn : Func} {K : Ctx} {R : D → St → Prop} {k : List Item} {env : Env} {σ : St} {id : Nat} {l : List Oper} (hok : okOps l.toArray fn.ntmps = true) (ord : List (Nat × Cls)) (ho : ord.map (·.1) = List.range l.length)
    (h : Run P l.toArray NX (GoesG m P f fn K R k) ord env σ) : GoesG m P f fn K R (.code (.region id l.toArray false) :: k) env σ :=
  g_region (Q := GoesG m P f fn K R k) (X := NX) (fun p a w hi hr hn hd => by
    refine wpIn_region ?_
    have := run_seq (K := K) (m := m) (X := NX) (fun _ _ _ h => h.elim) hok ord env σ a w h ⟨p, hi, hr, hn, hd⟩
    rw [ho] at this
    simpa using this) (fun _ _ _ h => h.elim) (fun _ _ h => h)
end
end Go.Proofs.Ytlannippingfdaa


namespace Go.Proofs.Ytlannippingfdaa
set_option maxRecDepth 100000
open Go.RowKit

/-- One that has come up in our order: its index, its class, what it leaves; E: the slots before it. -/
structure PE where
  i : Nat
  c : Cls
  o : Oper
  E : Env
  V : D

def envT (T : Nat → Bool) (env : Env) (l : List PE) : Env := l.foldl (fun E e => if T e.i then E.put e.o.dst e.V else E) env
abbrev envA (env : Env) (l : List PE) : Env := envT (fun _ => true) env l

theorem look_put (env : Env) (dst : Option Tmp) (d : D) (s : Nat) : lk (env.put dst d) s = if dst = some s then some d else lk env s := by
  cases dst with
  | none => simp [Env.put]
  | some t => simp only [Env.put, look_cons, Option.some.injEq]

theorem envT_app (T : Nat → Bool) (env : Env) (l m : List PE) : envT T env (l ++ m) = envT T (envT T env l) m := by simp [envT]
theorem envT_skip {T : Nat → Bool} {t : Nat} : ∀ {l : List PE} {E : Env}, (∀ e ∈ l, T e.i = true → e.o.dst ≠ some t) → lk (envT T E l) t = lk E t
  | [], _, _ => rfl
  | e :: l, E, h => by
    have h1 := envT_skip (T := T) (t := t) (l := l) (E := if T e.i then E.put e.o.dst e.V else E) fun e' he' => h e' (List.mem_cons_of_mem _ he')
    simp only [envT, List.foldl_cons] at h1 ⊢
    rw [h1]
    split
    · rename_i hT
      rw [look_put, if_neg (h e (List.mem_cons_self ..) hT)]
    · rfl
theorem envT_all {T : Nat → Bool} {t : Nat} : ∀ {l : List PE} {E E' : Env}, (∀ e ∈ l, e.o.dst = some t → T e.i = true) → lk E t = lk E' t → lk (envT T E l) t = lk (envA E' l) t
  | [], _, _, _, h0 => h0
  | e :: l, E, E', h, h0 => by
    simp only [envT, List.foldl_cons]
    refine envT_all (l := l) (fun e' he' => h e' (List.mem_cons_of_mem _ he')) ?_
    simp only [if_true]
    by_cases hd : e.o.dst = some t
    · rw [h e (List.mem_cons_self ..) hd]
      simp [look_put, hd]
    · rw [look_put, if_neg hd]
      split
      · rw [look_put, if_neg hd]; exact h0
      · exact h0
theorem envT_congr {T T' : Nat → Bool} : ∀ {l : List PE} {E : Env}, (∀ e ∈ l, T e.i = T' e.i) → envT T E l = envT T' E l
  | [], _, _ => rfl
  | e :: l, E, h => by
    simp only [envT, List.foldl_cons]
    rw [h e (List.mem_cons_self ..)]
    exact envT_congr (l := l) fun e' he' => h e' (List.mem_cons_of_mem _ he')

/-! ### what is checked by looking -/
section
variable {P : Program} {ops : Array Oper}
/-- Masks of what must have come up before; r: the places in our order. -/
def okMask (ops : Array Oper) (r M : Array Nat) : Bool := (List.range ops.size).all fun k => (List.range ops.size).all fun j => !(M.getD k 0).testBit j || (match ops[k]? with
  | some o => o.after.any fun e => Region.binds .any e && decide (r.getD e.on 0 < r.getD k 0 ∧ e.on < ops.size) && (e.on == j || (M.getD e.on 0).testBit j)
  | none => false)
def okLow (ops : Array Oper) (r : Array Nat) : Bool := (List.range ops.size).all fun k => match ops[k]? with
  | some o => o.after.all fun e => !Region.binds .any e || decide (r.getD e.on 0 < r.getD k 0 ∧ e.on < ops.size)
  | none => true
def ranks (n : Nat) (ord : List Nat) : Array Nat := (ord.foldl (fun (x : Array Nat × Nat) i => (x.1.setIfInBounds i x.2, x.2 + 1)) (Array.replicate n 0, 0)).1
def masks (ops : Array Oper) (ord : List Nat) : Array Nat := ord.foldl (fun M i => match ops[i]? with
  | some o => M.setIfInBounds i (o.after.foldl (fun m e => if Region.binds .any e then m ||| (1 <<< e.on) ||| M.getD e.on 0 else m) 0)
  | none => M) (Array.replicate ops.size 0)
def apartAt (ops : Array Oper) (j k : Nat) : Bool := match ops[j]?, ops[k]? with
  | some x, some y => x.apart ops y
  | _, _ => false
def pairOk (ops : Array Oper) (M : Array Nat) (x y : Nat × Cls) : Bool := (M.getD y.1 0).testBit x.1 || (!x.2.isW && !(x.2 == .r && y.2.isW) && apartAt ops x.1 y.1)
/-- The first of a list that writes. -/
def firstW : List (Nat × Cls) → Option Nat
  | [] => none
  | y :: l => if y.2.isW then some y.1 else firstW l
theorem firstW_mem : ∀ {l : List (Nat × Cls)} {j : Nat}, firstW l = some j → ∃ c, (j, c) ∈ l
  | [], _, h => by cases h
  | y :: l, j, h => by
    unfold firstW at h
    split at h
    · injection h with h
      exact ⟨y.2, by rw [← h]; exact List.mem_cons_self ..⟩
    · obtain ⟨c, hc⟩ := firstW_mem h
      exact ⟨c, List.mem_cons_of_mem _ hc⟩
/-- What an operation of class x is not held against: the next that writes, and all that must come behind that one. -/
def exempt (M : Array Nat) (l : List (Nat × Cls)) : List (Nat × Cls) := match firstW l with
  | some j => l.filter fun y => !(y.1 == j || (M.getD y.1 0).testBit j)
  | none => l
def okPairs (ops : Array Oper) (M : Array Nat) : List (Nat × Cls) → Bool
  | [] => true
  | x :: l => (match x.2 with | .x => exempt M l | _ => l).all (fun y => pairOk ops M x y) && okPairs ops M l
def okIdx (n : Nat) (ord : List (Nat × Cls)) : Bool := (List.range n).all (fun i => ord.any fun x => x.1 == i) && ord.all (fun x => decide (x.1 < n)) && decide (ord.map (·.1)).Nodup
def okAny (ops : Array Oper) (ord : List (Nat × Cls)) : Bool := okMask ops (ranks ops.size (ord.map (·.1))) (masks ops (ord.map (·.1))) && okLow ops (ranks ops.size (ord.map (·.1))) && okPairs ops (masks ops (ord.map (·.1))) ord && okIdx ops.size ord

def Tof (listed : Array Bool) (i : Nat) : Bool := listed.getD i false
/-- With each that has come up, what must come up before it. -/
def Down (ops : Array Oper) (listed : Array Bool) : Prop := ∀ k o, ops[k]? = some o → Tof listed k = true → ∀ e ∈ o.after, Region.binds .any e = true → Tof listed e.on = true

theorem mask_down {r M : Array Nat} {listed : Array Bool} (hM : okMask ops r M = true) (hd : Down ops listed) : ∀ (n : Nat) (k : Nat) (o : Oper), r.getD k 0 = n → ops[k]? = some o → (∀ e ∈ o.after, Region.binds .any e = true → Tof listed e.on = true) → ∀ j, j < ops.size → (M.getD k 0).testBit j = true → Tof listed j = true := by
  intro n
  induction n using Nat.strongRecOn with
  | _ n ih =>
    intro k o hn ho hall j hj hb
    have hk : k < ops.size := (Array.getElem?_eq_some_iff.1 ho).1
    have h1 := List.all_eq_true.1 (List.all_eq_true.1 hM k (by simpa using hk)) j (by simpa using hj)
    rw [hb] at h1
    simp only [Bool.not_true, Bool.false_or, ho] at h1
    obtain ⟨e, he, h2⟩ := Array.any_eq_true'.1 h1
    simp only [Bool.and_eq_true, decide_eq_true_eq, Bool.or_eq_true, beq_iff_eq] at h2
    obtain ⟨⟨h3, h4, h4'⟩, h5⟩ := h2
    have hl := hall e he h3
    rcases h5 with rfl | h5
    · exact hl
    · obtain ⟨o', ho'⟩ : ∃ o', ops[e.on]? = some o' := ⟨ops[e.on]'h4', Array.getElem?_eq_getElem h4'⟩
      exact ih (r.getD e.on 0) (by omega) e.on o' rfl ho' (hd e.on o' ho' hl) j hj h5

theorem okPairs_split {M : Array Nat} : ∀ {l m : List (Nat × Cls)} {x y : Nat × Cls}, okPairs ops M (l ++ x :: m) = true → x.2 ≠ .x → y ∈ m → pairOk ops M x y = true
  | [], m, x, y, h, hx, hy => by
    simp only [List.nil_append, okPairs, Bool.and_eq_true] at h
    obtain ⟨i, c⟩ := x
    cases c with
    | x => exact absurd rfl hx
    | d => exact List.all_eq_true.1 h.1 y hy
    | r => exact List.all_eq_true.1 h.1 y hy
    | w => exact List.all_eq_true.1 h.1 y hy
  | z :: l, m, x, y, h, hx, hy => by
    simp only [List.cons_append, okPairs, Bool.and_eq_true] at h
    exact okPairs_split h.2 hx hy
theorem okPairs_x {M : Array Nat} : ∀ {l m : List (Nat × Cls)} {i : Nat} {y : Nat × Cls}, okPairs ops M (l ++ (i, .x) :: m) = true → y ∈ m → (∀ j, firstW m = some j → y.1 ≠ j ∧ (M.getD y.1 0).testBit j = false) → pairOk ops M (i, .x) y = true
  | [], m, i, y, h, hy, hj => by
    simp only [List.nil_append, okPairs, Bool.and_eq_true] at h
    refine List.all_eq_true.1 h.1 y ?_
    unfold exempt
    split
    · rename_i j hf
      obtain ⟨h1, h2⟩ := hj j hf
      exact List.mem_filter.2 ⟨hy, by rw [h2]; simpa using h1⟩
    · exact hy
  | z' :: l, m, i, y, h, hy, hj => by
    simp only [List.cons_append, okPairs, Bool.and_eq_true] at h
    exact okPairs_x h.2 hy hj
end

/-- Pending: it may come up at any time. -/
def PendOk (P : Program) (ops : Array Oper) (σ : St) (e : PE) : Prop :=
  (wantD ops e.E e.o = some false ∧ e.V = .undef) ∨ (wantD ops e.E e.o = some true ∧ ((e.c = .d ∧ StepD P e.o (ev e.E) e.V) ∨ (e.c = .r ∧ StepS P e.o (ev e.E) σ fun d' σ' => d' = e.V ∧ σ' = σ)))

section
variable {P : Program} {ops : Array Oper} {Q : Env → St → Prop}
/-- As much as can be is taken into our order. -/
theorem absorb {X : Env → D → St → Prop} (env0 : Env) (σ : St) : ∀ (l : List (Nat × Cls)) (E : Env), Run P ops X Q l E σ → ∃ (new : List PE) (l' : List (Nat × Cls)), l = new.map (fun e => (e.i, e.c)) ++ l' ∧ Run P ops X Q l' (envA E new) σ ∧
    (∀ d1 e d2, new = d1 ++ e :: d2 → e.E = envA E d1 ∧ ops[e.i]? = some e.o ∧ PendOk P ops σ e ∧ e.c.isW = false) ∧ (l' = [] ∨ ∃ i c l'', l' = (i, c) :: l'' ∧ c.isW = true)
  | [], E, h => ⟨[], [], rfl, h, fun d1 e d2 hh => by simp at hh, .inl rfl⟩
  | (i, c) :: l, E, h => by
    have h0 := h
    obtain ⟨o, ho, h⟩ := h
    cases hc : c.isW with
    | true => exact ⟨[], (i, c) :: l, rfl, h0, fun d1 e d2 hh => by simp at hh, .inr ⟨i, c, l, rfl, hc⟩⟩
    | false =>
      have key : ∃ V, PendOk P ops σ ⟨i, c, o, E, V⟩ ∧ Run P ops X Q l (E.put o.dst V) σ := by
        rcases h with ⟨hw, h⟩ | ⟨hw, h⟩ | ⟨_, _, _, _, _, _, _, hq⟩
        · exact ⟨.undef, .inl ⟨hw, rfl⟩, h⟩
        rotate_left
        · rw [hc] at hq
          cases hq
        · cases c with
          | d => obtain ⟨d, hs, hk⟩ := h; exact ⟨d, .inr ⟨hw, .inl ⟨rfl, hs⟩⟩, hk⟩
          | r => obtain ⟨d, hs, hk⟩ := h; exact ⟨d, .inr ⟨hw, .inr ⟨rfl, hs⟩⟩, hk⟩
          | w => cases hc
          | x => cases hc
      obtain ⟨V, hp, hk⟩ := key
      obtain ⟨new, l', h1, h2, h3, h4⟩ := absorb env0 σ l _ hk
      refine ⟨⟨i, c, o, E, V⟩ :: new, l', by simp [h1], by simpa [envT] using h2, fun d1 e d2 hh => ?_, h4⟩
      cases d1 with
      | nil =>
        simp only [List.nil_append, List.cons.injEq] at hh
        obtain ⟨rfl, _⟩ := hh
        exact ⟨rfl, ho, hp, hc⟩
      | cons x d1 =>
        simp only [List.cons_append, List.cons.injEq] at hh
        obtain ⟨rfl, hh⟩ := hh
        obtain ⟨h5, h6⟩ := h3 d1 e d2 hh
        exact ⟨by rw [h5]; simp [envT], h6⟩
end

section
variable {P : Program} {ops : Array Oper} {Q : Env → St → Prop}
theorem pair_apart {M : Array Nat} {x y : Nat × Cls} (h : pairOk ops M x y = true) (hb : (M.getD y.1 0).testBit x.1 = false) : x.2.isW = false ∧ ¬(x.2 = .r ∧ y.2.isW = true) ∧ apartAt ops x.1 y.1 = true := by
  unfold pairOk at h
  rw [hb] at h
  simp only [Bool.false_or, Bool.and_eq_true, Bool.not_eq_true', Bool.and_eq_false_imp, beq_iff_eq] at h
  refine ⟨h.1.1, fun hh => ?_, h.2⟩
  have := h.1.2 hh.1
  rw [hh.2] at this
  cases this

theorem tof_set {listed : Array Bool} {i : Nat} (hi : i < listed.size) (j : Nat) : Tof (listed.setIfInBounds i true) j = if j = i then true else Tof listed j := by
  unfold Tof
  by_cases h : j = i
  · subst h; simp [hi]
  · rw [if_neg h, Array.getD_eq_getD_getElem?, Array.getD_eq_getD_getElem?, Array.getElem?_setIfInBounds_ne (Ne.symm h)]

/-- The state between two operations; T: the ways in which it may end. -/
structure Mid (P : Program) (ops : Array Oper) (X : Env → D → St → Prop) (Q : Env → St → Prop) (K : Ctx) (n : Nat) (m : Md) (T : List (List (Nat × Cls))) (env0 : Env) (done : List PE) (l : List (Nat × Cls)) (listed : Array Bool) (σ : St) (a : Act) (w : World) : Prop where
  ok : ∀ t ∈ T, okAny ops (done.map (fun e => (e.i, e.c)) ++ (l ++ t)) = true
  nonem : ∃ t, t ∈ T
  chain : ∀ d1 e d2, done = d1 ++ e :: d2 → e.E = envA env0 d1 ∧ ops[e.i]? = some e.o ∧ (Tof listed e.i = false → PendOk P ops σ e ∧ e.c.isW = false)
  rest : Run P ops X (fun e s => ∀ t ∈ T, Run P ops X Q t e s) l (envA env0 done) σ
  head : l = [] ∨ ∃ i c l', l = (i, c) :: l' ∧ c.isW = true
  thead : ∀ t ∈ T, t = [] ∨ ∃ i c t', t = (i, c) :: t' ∧ c.isW = true
  tpair : ∀ t ∈ T, ∀ i t' j, t = (i, .x) :: t' → firstW t' = some j → ∃ t2 ∈ T, ∃ t2', t2 = (j, .x) :: t2'
  lx : ∀ x ∈ l, x.2 ≠ .x
  tx : ∀ t ∈ T, ∀ x ∈ t.tail, x.2 ≠ .x
  new : ∀ x ∈ l, Tof listed x.1 = false
  tnew : ∀ t ∈ T, ∀ x ∈ t, Tof listed x.1 = false
  down : Down ops listed
  size : listed.size = ops.size
  good : Good K n m (envT (Tof listed) env0 done) σ a w

def left (ord : List (Nat × Cls)) (listed : Array Bool) : Nat := (ord.filter fun x => !Tof listed x.1).length

theorem left_set {ord : List (Nat × Cls)} {listed : Array Bool} {i : Nat} {c : Cls} (hn : (ord.map (·.1)).Nodup) (hm : (i, c) ∈ ord) (hi : i < listed.size) (hf : Tof listed i = false) : left ord (listed.setIfInBounds i true) + 1 = left ord listed := by
  unfold left
  induction ord with
  | nil => cases hm
  | cons x ord ih =>
    simp only [List.map_cons, List.nodup_cons] at hn
    by_cases hx : x.1 = i
    · have hno : ∀ y ∈ ord, y.1 ≠ i := fun y hy e => hn.1 (by rw [hx, ← e]; exact List.mem_map_of_mem hy)
      have e1 : ord.filter (fun x => !Tof (listed.setIfInBounds i true) x.1) = ord.filter (fun x => !Tof listed x.1) := List.filter_congr fun y hy => by rw [tof_set hi, if_neg (hno y hy)]
      rw [List.filter_cons, List.filter_cons, hx, tof_set hi, if_pos rfl, hf, e1]
      simp
    · have hm' : (i, c) ∈ ord := by
        rcases List.mem_cons.1 hm with h | h
        · exact absurd (by rw [← h]) hx
        · exact h
      have := ih hn.2 hm'
      rw [List.filter_cons, List.filter_cons, tof_set hi, if_neg hx]
      split
      · simp only [List.length_cons]; omega
      · exact this

def leftN (n : Nat) (listed : Array Bool) : Nat := left ((List.range n).map fun i => (i, Cls.d)) listed
theorem any_run {X : Env → D → St → Prop} {n : Nat} {md : Md} (hX : ∀ e d τ, X e d τ → X [] d τ ∧ md.rd = none) {K : Ctx} {env0 : Env} (hok : okOps ops n = true) :
    ∀ (fuel : Nat) (T : List (List (Nat × Cls))) (done : List PE) (l : List (Nat × Cls)) (listed : Array Bool) (σ : St) (a : Act) (w : World), Mid P ops X Q K n md T env0 done l listed σ a w → leftN ops.size listed = fuel →
      wpAnyIn (fw md.rd) 0 P .any ops (EndsR P K n md X Q) fuel listed a w := by
  intro fuel
  induction fuel with
  | zero =>
    intro T done l listed σ a w m h0
    obtain ⟨t0, ht0⟩ := m.nonem
    have hA := m.ok t0 ht0
    obtain ⟨ord, hord⟩ : ∃ ord, ord = done.map (fun e => (e.i, e.c)) ++ (l ++ t0) := ⟨_, rfl⟩
    rw [← hord] at hA
    have hall0 : done.map (fun e => (e.i, e.c)) ++ (l ++ t0) = ord := hord.symm
    simp only [okAny, Bool.and_eq_true] at hA
    obtain ⟨⟨⟨hM, hL⟩, hP⟩, hI⟩ := hA
    simp only [okIdx, Bool.and_eq_true, decide_eq_true_eq] at hI
    obtain ⟨⟨hI1, hI2⟩, hnd⟩ := hI
    have hin : ∀ i, i < ops.size → ∃ c, (i, c) ∈ ord := fun i hi => by
      obtain ⟨x, hx, he⟩ := List.any_eq_true.1 (List.all_eq_true.1 hI1 i (by simpa using hi))
      exact ⟨x.2, by rw [← (beq_iff_eq.1 he)]; exact hx⟩
    have hlt : ∀ x ∈ ord, x.1 < ops.size := fun x hx => by simpa using List.all_eq_true.1 hI2 x hx
    have hall : ∀ x ∈ ord, Tof listed x.1 = true := fun x hx => by
      cases hT : Tof listed x.1 with
      | true => rfl
      | false =>
        have : (x.1, Cls.d) ∈ ((List.range ops.size).map fun i => (i, Cls.d)).filter fun x => !Tof listed x.1 := List.mem_filter.2 ⟨List.mem_map.2 ⟨x.1, by simpa using hlt x hx, rfl⟩, by simp [hT]⟩
        have := List.length_pos_of_mem this
        unfold leftN left at h0
        omega
    refine ⟨?_, .inl ⟨rfl, ?_⟩⟩
    · refine List.eq_nil_iff_forall_not_mem.2 fun i hi => ?_
      obtain ⟨hun, o, ho, _⟩ := mem_ready.1 hi
      have hi' := (Array.getElem?_eq_some_iff.1 ho).1
      obtain ⟨c, hc⟩ := hin i hi'
      have := hall _ hc
      unfold Tof at this
      have hs : i < listed.size := by rw [m.size]; exact hi'
      simp [hs] at this hun
      rw [this] at hun
      cases hun
    · have hl : l = [] := by
        rcases m.head with h | ⟨i, c, l', h, _⟩
        · exact h
        · have hm : (i, c) ∈ l := by rw [h]; simp
          have h1 := m.new _ hm
          rw [hall _ (by rw [← hall0]; exact List.mem_append_right _ (List.mem_append_left _ hm))] at h1
          cases h1
      have ht : t0 = [] := by
        rcases m.thead t0 ht0 with h | ⟨i, c, l', h, _⟩
        · exact h
        · have hm : (i, c) ∈ t0 := by rw [h]; simp
          have h1 := m.tnew t0 ht0 _ hm
          rw [hall _ (by rw [← hall0]; exact List.mem_append_right _ (List.mem_append_right _ hm))] at h1
          cases h1
      obtain ⟨p, g1, g2, g3, g4⟩ := m.good
      have hr := m.rest
      rw [hl] at hr
      have hr := hr t0 ht0
      rw [ht] at hr
      have he : envT (Tof listed) env0 done = envA env0 done := envT_congr fun e he => hall (e.i, e.c) (by rw [← hall0]; exact List.mem_append_left _ (List.mem_map_of_mem he))
      exact ⟨_, σ, p, hr, g1, he ▸ g2, g3, g4⟩
  | succ fuel ih =>
    intro T done l listed σ a w m h0
    obtain ⟨t0, ht0⟩ := m.nonem
    have hA := m.ok t0 ht0
    obtain ⟨ord, hord⟩ : ∃ ord, ord = done.map (fun e => (e.i, e.c)) ++ (l ++ t0) := ⟨_, rfl⟩
    rw [← hord] at hA
    have hall0 : done.map (fun e => (e.i, e.c)) ++ (l ++ t0) = ord := hord.symm
    simp only [okAny, Bool.and_eq_true] at hA
    obtain ⟨⟨⟨hM, hL⟩, hP⟩, hI⟩ := hA
    simp only [okIdx, Bool.and_eq_true, decide_eq_true_eq] at hI
    obtain ⟨⟨hI1, hI2⟩, hnd⟩ := hI
    have hin : ∀ i, i < ops.size → ∃ c, (i, c) ∈ ord := fun i hi => by
      obtain ⟨x, hx, he⟩ := List.any_eq_true.1 (List.all_eq_true.1 hI1 i (by simpa using hi))
      exact ⟨x.2, by rw [← (beq_iff_eq.1 he)]; exact hx⟩
    have hlt : ∀ x ∈ ord, x.1 < ops.size := fun x hx => by simpa using List.all_eq_true.1 hI2 x hx
    obtain ⟨p, g1, g2, g3, g4⟩ := m.good
    have hmask := fun k o ho hall j hj => mask_down (ops := ops) hM m.down _ k o rfl ho hall j hj
    refine ⟨fun hnone => ?_, fun i hi => ?_⟩
    · exfalso
      -- one that has not come up, the first of them
      have hex : ∃ i, i < ops.size ∧ Tof listed i = false := by
        have : 0 < leftN ops.size listed := by omega
        unfold leftN left at this
        obtain ⟨x, hx⟩ := List.exists_mem_of_length_pos this
        obtain ⟨hx1, hx2⟩ := List.mem_filter.1 hx
        obtain ⟨y, hy, rfl⟩ := List.mem_map.1 hx1
        exact ⟨y, by simpa using hy, by simpa using hx2⟩
      obtain ⟨i, hi1, hi2⟩ := hex
      have : ∀ n k, (ranks ops.size (ord.map (·.1))).getD k 0 = n → k < ops.size → Tof listed k = false → False := by
        intro n
        induction n using Nat.strongRecOn with
        | _ n ihk =>
          intro k hkn hk1 hk2
          have hr : k ∈ Region.ready .any ops listed := by
            refine mem_ready.2 ⟨?_, ops[k], Array.getElem?_eq_getElem hk1, fun e he hb => ?_⟩
            · have hs : k < listed.size := by rw [m.size]; exact hk1
              unfold Tof at hk2
              simp [hs] at hk2 ⊢
              exact hk2
            · cases hT : Tof listed e.on with
              | true => exact hT
              | false =>
                have hl := List.all_eq_true.1 hL k (by simpa using hk1)
                simp only [Array.getElem?_eq_getElem hk1] at hl
                have := (Array.all_eq_true_iff_forall_mem.1 hl) e he
                simp only [hb, Bool.not_true, Bool.false_or, decide_eq_true_eq] at this
                exact (ihk _ (by rw [← hkn]; exact this.1) e.on rfl this.2 hT).elim
          rw [hnone] at hr
          cases hr
      exact this _ i rfl hi1 hi2
    · obtain ⟨hun, o, ho, hdeps⟩ := mem_ready.1 hi
      have hi' := (Array.getElem?_eq_some_iff.1 ho).1
      have hs : i < listed.size := by rw [m.size]; exact hi'
      have hT : Tof listed i = false := by
        unfold Tof
        simp [hs] at hun ⊢
        exact hun
      obtain ⟨c, hc⟩ := hin i hi'
      have hdown : Down ops (listed.setIfInBounds i true) := fun k o' ho' hk e he hb => by
        rw [tof_set hs] at hk ⊢
        split
        · rfl
        · by_cases hki : k = i
          · subst hki
            rw [ho] at ho'
            injection ho' with ho'
            subst ho'
            exact hdeps e he hb
          · rw [if_neg hki] at hk
            exact m.down k o' ho' hk e he hb
      have hleft := left_set (ord := (List.range ops.size).map fun i => (i, Cls.d)) (c := Cls.d) (by rw [List.map_map]; have : (Prod.fst ∘ fun i : Nat => (i, Cls.d)) = id := rfl; rw [this, List.map_id]; exact List.nodup_range) (List.mem_map.2 ⟨i, by simpa using hi', rfl⟩) hs hT
      -- who must have come up, who cannot have
      have before : ∀ x y : Nat × Cls, x.1 < ops.size → pairOk ops (masks ops (ord.map (·.1))) x y = true → y.1 = i → Tof listed x.1 = false → x.2.isW = false ∧ ¬(x.2 = .r ∧ y.2.isW = true) ∧ apartAt ops x.1 y.1 = true := fun x y hx hp hy hf => pair_apart hp (by
        cases hb : ((masks ops (ord.map (·.1))).getD y.1 0).testBit x.1 with
        | false => rfl
        | true =>
          rw [hy] at hb
          rw [hmask i o ho hdeps x.1 hx hb] at hf
          cases hf)
      have behind : ∀ x y : Nat × Cls, y.1 < ops.size → pairOk ops (masks ops (ord.map (·.1))) x y = true → x.1 = i → Tof listed y.1 = true → x.2.isW = false ∧ ¬(x.2 = .r ∧ y.2.isW = true) ∧ apartAt ops x.1 y.1 = true := fun x y hy hp hx ht => pair_apart hp (by
        cases hb : ((masks ops (ord.map (·.1))).getD y.1 0).testBit x.1 with
        | false => rfl
        | true =>
          have h1 := hmask y.1 _ (Array.getElem?_eq_getElem hy) (m.down y.1 _ (Array.getElem?_eq_getElem hy) ht) x.1 (by rw [hx]; exact hi') hb
          rw [hx, hT] at h1
          cases h1)
      have apartL : ∀ {j k : Nat} {x y : Oper}, apartAt ops j k = true → ops[j]? = some x → ops[k]? = some y → x.apart ops y = true := fun {j k x y} h hx hy => by
        unfold apartAt at h
        rw [hx, hy] at h
        exact h
      rw [← hall0] at hc
      rcases List.mem_append.1 hc with hc' | hc'
      · -- it is pending
        obtain ⟨e, he, hec⟩ := List.mem_map.1 hc'
        obtain ⟨d1, d2, hsplit⟩ := List.append_of_mem he
        obtain rfl : e.i = i := congrArg Prod.fst hec
        obtain ⟨hE, heo, hpend⟩ := m.chain d1 e d2 hsplit
        obtain ⟨hp, hcw⟩ := hpend hT
        have heq : e.o = o := by rw [heo] at ho; injection ho
        have hunl : ∀ x ∈ done, Tof listed x.i = false → x.c ≠ .x := fun x hx hf e => by
          obtain ⟨u1, u2, hu⟩ := List.append_of_mem hx
          have := ((m.chain u1 x u2 hu).2.2 hf).2
          rw [e] at this
          cases this
        have hpair1 : ∀ x ∈ d1, Tof listed x.i = false → pairOk ops (masks ops (ord.map (·.1))) (x.i, x.c) (e.i, e.c) = true := fun x hx hf => by
          obtain ⟨u1, u2, hu⟩ := List.append_of_mem hx
          have : okPairs ops (masks ops (ord.map (·.1))) ((u1.map fun e => (e.i, e.c)) ++ (x.i, x.c) :: ((u2.map fun e => (e.i, e.c)) ++ (e.i, e.c) :: ((d2.map fun e => (e.i, e.c)) ++ (l ++ t0)))) = true := by
            rw [← hP, ← hall0, hsplit, hu]; simp
          exact okPairs_split this (hunl x (by rw [hsplit]; exact List.mem_append_left _ hx) hf) (by simp)
        have hpair2 : ∀ x ∈ d2, pairOk ops (masks ops (ord.map (·.1))) (e.i, e.c) (x.i, x.c) = true := fun x hx => by
          have : okPairs ops (masks ops (ord.map (·.1))) ((d1.map fun e => (e.i, e.c)) ++ (e.i, e.c) :: ((d2.map fun e => (e.i, e.c)) ++ (l ++ t0))) = true := by
            rw [← hP, ← hall0, hsplit]; simp
          exact okPairs_split this (fun h => by have := hcw; simp only at h; rw [h] at this; cases this) (List.mem_append_left _ (List.mem_map_of_mem hx))
        have hmemlt : ∀ x ∈ done, x.i < ops.size ∧ ops[x.i]? = some x.o := fun x hx => by
          obtain ⟨u1, u2, hu⟩ := List.append_of_mem hx
          have := (m.chain u1 x u2 hu).2.1
          exact ⟨(Array.getElem?_eq_some_iff.1 this).1, this⟩
        have hin1 : ∀ x ∈ d1, x ∈ done := fun x hx => by rw [hsplit]; exact List.mem_append_left _ hx
        have hin2 : ∀ x ∈ d2, x ∈ done := fun x hx => by rw [hsplit]; exact List.mem_append_right _ (List.mem_cons_of_mem _ hx)
        have hlook : ∀ t ∈ o.looksAt ops, lk (envT (Tof listed) env0 done) t = lk e.E t := fun t ht => by
          rw [hsplit, envT_app]
          have hcons : envT (Tof listed) (envT (Tof listed) env0 d1) (e :: d2) = envT (Tof listed) (envT (Tof listed) env0 d1) d2 := by simp [envT, hT]
          rw [hcons, envT_skip, hE]
          · refine envT_all (fun x hx hd => ?_) rfl
            cases hf : Tof listed x.i with
            | true => rfl
            | false =>
              have := (before (x.i, x.c) (e.i, e.c) (hmemlt x (hin1 x hx)).1 (hpair1 x hx hf) rfl hf).2.2
              have h5 := apartL this (hmemlt x (hin1 x hx)).2 ho
              exact absurd ht ((Oper.apart_spec h5).1 t hd)
          · intro x hx hf hd
            have := (behind (e.i, e.c) (x.i, x.c) (hmemlt x (hin2 x hx)).1 (hpair2 x hx) rfl hf).2.2
            have h5 := apartL this ho (hmemlt x (hin2 x hx)).2
            exact (Oper.apart_spec h5).2.2 t hd ht
        have hrep : ∀ t ∈ o.looksAt ops, ∀ d, lk e.E t = some d → Rep p w d (a.tmps.getD t Go.undef) := fun t ht d hd => g2 t d (by rw [hlook t ht]; exact hd)
        have hput : ∀ t, lk (envT (Tof (listed.setIfInBounds e.i true)) env0 done) t = lk ((envT (Tof listed) env0 done).put o.dst e.V) t := fun t => by
          have hne1 : ∀ x ∈ d1, x.i ≠ e.i := fun x hx hxe => by
            rw [← hall0, hsplit] at hnd
            simp only [List.map_append, List.map_cons, List.map_map] at hnd
            have := List.nodup_append.1 (List.nodup_append.1 hnd).1
            exact this.2.2 _ (List.mem_map_of_mem hx) _ (List.mem_cons_self ..) hxe
          have hne2 : ∀ x ∈ d2, x.i ≠ e.i := fun x hx hxe => by
            rw [← hall0, hsplit] at hnd
            simp only [List.map_append, List.map_cons, List.map_map] at hnd
            have := (List.nodup_append.1 (List.nodup_append.1 hnd).1).2.1
            simp only [List.nodup_cons] at this
            exact this.1 (List.mem_map.2 ⟨x, hx, hxe⟩)
          have e1 : envT (Tof (listed.setIfInBounds e.i true)) env0 done = envT (Tof listed) ((envT (Tof listed) env0 d1).put o.dst e.V) d2 := by
            rw [hsplit, envT_app, envT_congr (T := Tof (listed.setIfInBounds e.i true)) (T' := Tof listed) (l := d1) fun x hx => by rw [tof_set hs, if_neg (hne1 x hx)]]
            have : envT (Tof (listed.setIfInBounds e.i true)) (envT (Tof listed) env0 d1) (e :: d2) = envT (Tof (listed.setIfInBounds e.i true)) ((envT (Tof listed) env0 d1).put o.dst e.V) d2 := by
              simp [envT, tof_set hs, heq]
            rw [this]
            exact envT_congr fun x hx => by rw [tof_set hs, if_neg (hne2 x hx)]
          have e2 : envT (Tof listed) env0 done = envT (Tof listed) (envT (Tof listed) env0 d1) d2 := by
            rw [hsplit, envT_app]; simp [envT, hT]
          rw [e1, e2, look_put]
          by_cases hd : o.dst = some t
          · rw [if_pos hd, envT_skip, look_put, if_pos hd]
            intro x hx hf hxd
            have := (behind (e.i, e.c) (x.i, x.c) (hmemlt x (hin2 x hx)).1 (hpair2 x hx) rfl hf).2.2
            have h5 := apartL this ho (hmemlt x (hin2 x hx)).2
            exact (Oper.apart_spec h5).2.1 t hd hxd
          · rw [if_neg hd]
            have gen : ∀ (m : List PE) (A B : Env), lk A t = lk B t → lk (envT (Tof listed) A m) t = lk (envT (Tof listed) B m) t := by
              intro m
              induction m with
              | nil => exact fun A B h => h
              | cons x m ihm =>
                intro A B h
                simp only [envT, List.foldl_cons]
                refine ihm _ _ ?_
                split
                · simp only [look_put]; split <;> simp [h]
                · exact h
            exact gen d2 _ _ (by rw [look_put, if_neg hd])
        have next : ∀ (a' : Act) (w' : World) (p' : Addr → Prop) (v : Value), a' = a.put o.dst v → Rep p' w' e.V v → Inv K p' σ w' → Grow p w p' w' → Mid P ops X Q K n md T env0 done l (listed.setIfInBounds e.i true) σ a' w' := fun a' w' p' v ha' hv hi2 hg => by
          have hnin : ∀ t ∈ T, ∀ x ∈ l ++ t, x.1 ≠ e.i := fun t ht x hx hxe => by
            have hk := m.ok t ht
            simp only [okAny, Bool.and_eq_true, okIdx, decide_eq_true_eq] at hk
            have hnd := hk.2.2
            rw [List.map_append, List.map_map] at hnd
            exact (List.nodup_append.1 hnd).2.2 _ (List.mem_map_of_mem he) _ (List.mem_map_of_mem hx) hxe.symm
          refine ⟨m.ok, m.nonem, fun u1 x u2 hu => ?_, m.rest, m.head, m.thead, m.tpair, m.lx, m.tx, fun x hx => ?_, fun t ht x hx => ?_, hdown, by simpa using m.size, ⟨p', hi2, fun t d ht => ?_, ?_, ?_⟩⟩
          · obtain ⟨q1, q2, q3⟩ := m.chain u1 x u2 hu
            refine ⟨q1, q2, fun hf => q3 ?_⟩
            rw [tof_set hs] at hf
            split at hf
            · cases hf
            · exact hf
          · rw [tof_set hs, if_neg (hnin t0 ht0 x (List.mem_append_left _ hx)), m.new x hx]
          · rw [tof_set hs, if_neg (hnin t ht x (List.mem_append_right _ hx)), m.tnew t ht x hx]
          · rw [hput t] at ht
            have hr' := (g2.grow hg).put (dst := o.dst) hv fun t ht => Nat.lt_of_lt_of_le (okOps_dst hok ho t ht) g3
            rw [ha']
            exact hr' t d ht
          · rw [ha', put_size]; exact g3
          · rw [ha', put_defers']; exact g4
        unfold wpOpIn
        simp only [ho]
        have hlf : leftN ops.size (listed.setIfInBounds e.i true) = fuel := by unfold leftN at h0 ⊢; omega
        rcases hp with ⟨hw, hV⟩ | ⟨hw, hp⟩
        · rw [heq] at hw
          rw [wantD_spec hrep hw]
          simp only [Bool.false_eq_true, if_false]
          exact ⟨fun f _ => fw_fn _ f, ih _ _ _ _ _ _ _ (next _ w p Go.undef rfl (by rw [hV]; simp only [Rep]) g1 (Grow.refl p w)) hlf⟩
        · rw [heq] at hw
          rw [wantD_spec hrep hw]
          simp only [if_true]
          have hst : StepS P o (ev e.E) σ fun d' σ' => d' = e.V ∧ σ' = σ := by
            rw [← heq]
            rcases hp with ⟨_, hp⟩ | ⟨_, hp⟩
            · exact hp σ
            · exact hp
          refine wpIn_die (fun a' w' hh => ?_) (fun _ _ _ hh => hh.elim) (hst.y md.rd K p a w g1 (evs_rep hok ho hrep))
          obtain ⟨v, d, σ', p', ha', ⟨rfl, rfl⟩, hv, hi2, hg⟩ := hh
          exact ih _ _ _ _ _ _ _ (next a' w' p' v ha' hv hi2 hg) hlf
      · -- it is the next one of our order
        obtain ⟨T', ci, lrest, hW, hT'ok, hT'some, hT'run, hT'head, hT'pair, hT'lx, hT'tx, hT'new, hT'tnew⟩ : ∃ (T' : List (List (Nat × Cls))) (ci : Cls) (lrest : List (Nat × Cls)), ci.isW = true ∧ (∀ t ∈ T', okAny ops (done.map (fun e => (e.i, e.c)) ++ ((i, ci) :: lrest ++ t)) = true) ∧ (∃ t, t ∈ T') ∧ Run P ops X (fun e s => ∀ t ∈ T', Run P ops X Q t e s) ((i, ci) :: lrest) (envA env0 done) σ ∧ (∀ t ∈ T', t = [] ∨ ∃ i c t', t = (i, c) :: t' ∧ c.isW = true) ∧ (∀ t ∈ T', ∀ i t' j, t = (i, .x) :: t' → firstW t' = some j → ∃ t2 ∈ T', ∃ t2', t2 = (j, .x) :: t2') ∧ (∀ x ∈ lrest, x.2 ≠ .x) ∧ (∀ t ∈ T', ∀ x ∈ t.tail, x.2 ≠ .x) ∧ (∀ x ∈ lrest, Tof listed x.1 = false) ∧ (∀ t ∈ T', ∀ x ∈ t, Tof listed x.1 = false) := by
          rcases m.head with hl | ⟨i0, c0, l', hl, hc0⟩
          · -- one of the ends
            subst hl
            have hend : ∀ t ∈ T, ∀ ci t', t = (i, ci) :: t' → ci.isW = true → ∃ (T' : List (List (Nat × Cls))) (ci : Cls) (lrest : List (Nat × Cls)), ci.isW = true ∧ (∀ t ∈ T', okAny ops (done.map (fun e => (e.i, e.c)) ++ ((i, ci) :: lrest ++ t)) = true) ∧ (∃ t, t ∈ T') ∧ Run P ops X (fun e s => ∀ t ∈ T', Run P ops X Q t e s) ((i, ci) :: lrest) (envA env0 done) σ ∧ (∀ t ∈ T', t = [] ∨ ∃ i c t', t = (i, c) :: t' ∧ c.isW = true) ∧ (∀ t ∈ T', ∀ i t' j, t = (i, .x) :: t' → firstW t' = some j → ∃ t2 ∈ T', ∃ t2', t2 = (j, .x) :: t2') ∧ (∀ x ∈ lrest, x.2 ≠ .x) ∧ (∀ t ∈ T', ∀ x ∈ t.tail, x.2 ≠ .x) ∧ (∀ x ∈ lrest, Tof listed x.1 = false) ∧ (∀ t ∈ T', ∀ x ∈ t, Tof listed x.1 = false) := fun t ht ci t' he hW => by
              subst he
              refine ⟨[[]], ci, t', hW, fun u hu => ?_, ⟨[], List.mem_singleton.2 rfl⟩, run_mono (fun e s h u hu => by rw [List.mem_singleton.1 hu]; exact h) _ _ _ (m.rest _ ht), fun u hu => .inl (List.mem_singleton.1 hu), fun u hu i t'' j h _ => (by rw [List.mem_singleton.1 hu] at h; cases h), m.tx _ ht, fun u hu x hx => (by rw [List.mem_singleton.1 hu] at hx; cases hx), fun x hx => m.tnew _ ht x (List.mem_cons_of_mem _ hx), fun u hu x hx => (by rw [List.mem_singleton.1 hu] at hx; cases hx)⟩
              rw [List.mem_singleton.1 hu, List.append_nil]
              exact m.ok _ ht
            rcases m.thead t0 ht0 with ht | ⟨i0, c0, t0', ht, hc0⟩
            · rw [ht] at hc'; cases hc'
            · by_cases hii : i = i0
              · subst hii
                exact hend t0 ht0 c0 t0' ht hc0
              · rw [List.nil_append, ht] at hc'
                rcases List.mem_cons.1 hc' with h | h
                · exact absurd (congrArg Prod.fst h) hii
                · have hx0 : i0 < ops.size := hlt (i0, c0) (by rw [← hall0, ht]; simp)
                  have hf0 : Tof listed i0 = false := m.tnew t0 ht0 (i0, c0) (by rw [ht]; simp)
                  have hP' : okPairs ops (masks ops (ord.map (·.1))) ((done.map fun e => (e.i, e.c)) ++ (i0, c0) :: t0') = true := by
                    rw [← hP, ← hall0, ht]; simp
                  have habs : pairOk ops (masks ops (ord.map (·.1))) (i0, c0) (i, c) = true → False := fun hp => by
                    have := (before (i0, c0) (i, c) hx0 hp rfl hf0).1
                    simp only at this
                    rw [hc0] at this
                    cases this
                  by_cases hcx : c0 = .x
                  · subst hcx
                    cases hfw : firstW t0' with
                    | none => exact (habs (okPairs_x hP' h fun j hj => by rw [hfw] at hj; cases hj)).elim
                    | some j =>
                      by_cases hij : i = j
                      · subst hij
                        obtain ⟨t2, ht2, t2', h2⟩ := m.tpair t0 ht0 i0 t0' i ht hfw
                        exact hend t2 ht2 .x t2' h2 rfl
                      · obtain ⟨cj, hcj⟩ := firstW_mem hfw
                        have hjm : (j, cj) ∈ t0 := by rw [ht]; exact List.mem_cons_of_mem _ hcj
                        have hjf : Tof listed j = false := m.tnew t0 ht0 (j, cj) hjm
                        have hjlt : j < ops.size := hlt (j, cj) (by rw [← hall0]; exact List.mem_append_right _ (List.mem_append_right _ hjm))
                        cases hb : ((masks ops (ord.map (·.1))).getD i 0).testBit j with
                        | true =>
                          rw [hmask i o ho hdeps j hjlt hb] at hjf
                          cases hjf
                        | false => exact (habs (okPairs_x hP' h fun j' hj' => by
                          rw [hfw] at hj'
                          injection hj' with hj'
                          subst hj'
                          exact ⟨hij, hb⟩)).elim
                  · exact (habs (okPairs_split hP' hcx h)).elim
          · subst hl
            have hii : i = i0 := by
              rcases List.mem_cons.1 (by simpa using hc' : (i, c) ∈ (i0, c0) :: (l' ++ t0)) with h | h
              · exact congrArg Prod.fst h
              · exfalso
                have hx0 : i0 < ops.size := hlt (i0, c0) (by rw [← hall0]; simp)
                have hP' : okPairs ops (masks ops (ord.map (·.1))) ((done.map fun e => (e.i, e.c)) ++ (i0, c0) :: (l' ++ t0)) = true := by
                  rw [← hP, ← hall0]; simp
                have hp := okPairs_split hP' (m.lx (i0, c0) (List.mem_cons_self ..)) h
                have := (before (i0, c0) (i, c) hx0 hp rfl (m.new (i0, c0) (List.mem_cons_self ..))).1
                simp only at this
                rw [hc0] at this
                cases this
            subst hii
            exact ⟨T, c0, l', hc0, m.ok, m.nonem, m.rest, m.thead, m.tpair, fun x hx => m.lx x (List.mem_cons_of_mem _ hx), m.tx, fun x hx => m.new x (List.mem_cons_of_mem _ hx), m.tnew⟩
        clear hc hc'
        obtain ⟨t1, ht1⟩ := hT'some
        have hA1 := hT'ok t1 ht1
        obtain ⟨ord, hord⟩ : ∃ ord, ord = done.map (fun e => (e.i, e.c)) ++ ((i, ci) :: lrest ++ t1) := ⟨_, rfl⟩
        rw [← hord] at hA1
        have hall0 : done.map (fun e => (e.i, e.c)) ++ ((i, ci) :: lrest ++ t1) = ord := hord.symm
        simp only [okAny, Bool.and_eq_true] at hA1
        obtain ⟨⟨⟨hM, hL⟩, hP⟩, hI⟩ := hA1
        simp only [okIdx, Bool.and_eq_true, decide_eq_true_eq] at hI
        obtain ⟨⟨hI1, hI2⟩, hnd⟩ := hI
        have hin : ∀ i, i < ops.size → ∃ c, (i, c) ∈ ord := fun i hi => by
          obtain ⟨x, hx, he⟩ := List.any_eq_true.1 (List.all_eq_true.1 hI1 i (by simpa using hi))
          exact ⟨x.2, by rw [← (beq_iff_eq.1 he)]; exact hx⟩
        have hlt : ∀ x ∈ ord, x.1 < ops.size := fun x hx => by simpa using List.all_eq_true.1 hI2 x hx
        have hmask := fun k o ho hall j hj => mask_down (ops := ops) hM m.down _ k o rfl ho hall j hj
        have before : ∀ x y : Nat × Cls, x.1 < ops.size → pairOk ops (masks ops (ord.map (·.1))) x y = true → y.1 = i → Tof listed x.1 = false → x.2.isW = false ∧ ¬(x.2 = .r ∧ y.2.isW = true) ∧ apartAt ops x.1 y.1 = true := fun x y hx hp hy hf => pair_apart hp (by
          cases hb : ((masks ops (ord.map (·.1))).getD y.1 0).testBit x.1 with
          | false => rfl
          | true =>
            rw [hy] at hb
            rw [hmask i o ho hdeps x.1 hx hb] at hf
            cases hf)
        have hunl : ∀ x ∈ done, Tof listed x.i = false → x.c ≠ .x := fun x hx hf e => by
          obtain ⟨u1, u2, hu⟩ := List.append_of_mem hx
          have := ((m.chain u1 x u2 hu).2.2 hf).2
          rw [e] at this
          cases this
        have hpair : ∀ x ∈ done, Tof listed x.i = false → pairOk ops (masks ops (ord.map (·.1))) (x.i, x.c) (i, ci) = true := fun x hx hf => by
          obtain ⟨u1, u2, hu⟩ := List.append_of_mem hx
          have : okPairs ops (masks ops (ord.map (·.1))) ((u1.map fun e => (e.i, e.c)) ++ (x.i, x.c) :: ((u2.map fun e => (e.i, e.c)) ++ (i, ci) :: (lrest ++ t1))) = true := by
            rw [← hP, ← hall0, hu]; simp
          exact okPairs_split this (hunl x hx hf) (by simp)
        have hmemlt : ∀ x ∈ done, x.i < ops.size ∧ ops[x.i]? = some x.o := fun x hx => by
          obtain ⟨u1, u2, hu⟩ := List.append_of_mem hx
          have := (m.chain u1 x u2 hu).2.1
          exact ⟨(Array.getElem?_eq_some_iff.1 this).1, this⟩
        have hne : ∀ x ∈ done, x.i ≠ i := fun x hx hxe => by
          rw [← hall0] at hnd
          simp only [List.map_append, List.map_map, List.map_cons, List.cons_append] at hnd
          exact (List.nodup_append.1 hnd).2.2 _ (List.mem_map_of_mem hx) _ (List.mem_cons_self ..) hxe
        have hlook : ∀ t ∈ o.looksAt ops, lk (envT (Tof listed) env0 done) t = lk (envA env0 done) t := fun t ht =>
          envT_all (fun x hx hd => by
            cases hf : Tof listed x.i with
            | true => rfl
            | false =>
              have := (before (x.i, x.c) (i, ci) (hmemlt x hx).1 (hpair x hx hf) rfl hf).2.2
              have h5 := apartL this (hmemlt x hx).2 ho
              exact absurd ht ((Oper.apart_spec h5).1 t hd)) rfl
        have hrep : ∀ t ∈ o.looksAt ops, ∀ d, lk (envA env0 done) t = some d → Rep p w d (a.tmps.getD t Go.undef) := fun t ht d hd => g2 t d (by rw [hlook t ht]; exact hd)
        have next : ∀ (a' : Act) (w' : World) (p' : Addr → Prop) (v : Value) (V : D) (σ' : St), a' = a.put o.dst v → Rep p' w' V v → Inv K p' σ' w' → Grow p w p' w' → Run P ops X (fun e s => ∀ t ∈ T', Run P ops X Q t e s) lrest ((envA env0 done).put o.dst V) σ' →
            ∃ done' l'', Mid P ops X Q K n md T' env0 done' l'' (listed.setIfInBounds i true) σ' a' w' := fun a' w' p' v V σ' ha' hv hi2 hg hrun => by
          obtain ⟨new, l'', h1, h2, h3, h4⟩ := absorb env0 σ' lrest _ hrun
          have heA : envA env0 (done ++ [⟨i, ci, o, envA env0 done, V⟩]) = (envA env0 done).put o.dst V := by simp [envT]
          have hndT : ∀ t ∈ T', (done.map (fun e => e.i) ++ i :: (new.map (fun e => e.i) ++ (l''.map (·.1) ++ t.map (·.1)))).Nodup := fun t ht => by
            have hk := hT'ok t ht
            simp only [okAny, Bool.and_eq_true, okIdx, decide_eq_true_eq] at hk
            have := hk.2.2
            rw [h1] at this
            simpa [List.map_map, Function.comp_def] using this
          have hnd' := hndT t1 ht1
          have hnd2 := List.nodup_append.1 hnd'
          have hnd3 := List.nodup_cons.1 hnd2.2.1
          refine ⟨done ++ ⟨i, ci, o, envA env0 done, V⟩ :: new, l'', ⟨fun t ht => by have := hT'ok t ht; rw [h1] at this; simpa using this, ⟨t1, ht1⟩, fun u1 x u2 hu => ?_, ?_, h4, hT'head, hT'pair, fun x hx => hT'lx x (by rw [h1]; exact List.mem_append_right _ hx), hT'tx, fun x hx => ?_, fun t ht x hx => ?_, hdown, by simpa using m.size, ⟨p', hi2, fun t d ht => ?_, ?_, ?_⟩⟩⟩
          · -- the chain
            rcases List.append_eq_append_iff.1 hu with ⟨v1, hv1, hv2⟩ | ⟨v1, hv1, hv2⟩
            · cases v1 with
              | nil =>
                simp only [List.nil_append, List.cons.injEq] at hv2
                obtain ⟨rfl, rfl⟩ := hv2
                simp only [List.append_nil] at hv1
                subst hv1
                exact ⟨rfl, ho, fun hf => by rw [tof_set hs, if_pos rfl] at hf; cases hf⟩
              | cons y v1 =>
                simp only [List.cons_append, List.cons.injEq] at hv2
                obtain ⟨rfl, hv2⟩ := hv2
                obtain ⟨q1, q2, q3, q4⟩ := h3 v1 x u2 hv2
                refine ⟨?_, q2, fun _ => ⟨q3, q4⟩⟩
                rw [q1, hv1]
                simp [envT]
            · cases v1 with
              | nil =>
                simp only [List.nil_append, List.cons.injEq] at hv2
                obtain ⟨rfl, rfl⟩ := hv2
                simp only [List.append_nil] at hv1
                subst hv1
                exact ⟨rfl, ho, fun hf => by rw [tof_set hs, if_pos rfl] at hf; cases hf⟩
              | cons y v1 =>
                simp only [List.cons_append, List.cons.injEq] at hv2
                obtain ⟨rfl, hv2⟩ := hv2
                have hxin : x ∈ done := by rw [hv1]; simp
                obtain ⟨q1, q2, q3⟩ := m.chain u1 x v1 hv1
                refine ⟨q1, q2, fun hf => ?_⟩
                rw [tof_set hs, if_neg (hne x hxin)] at hf
                obtain ⟨q4, q5⟩ := q3 hf
                refine ⟨?_, q5⟩
                have hnr := (before (x.i, x.c) (i, ci) (hmemlt x hxin).1 (hpair x hxin hf) rfl hf).2.1
                rcases q4 with q4 | ⟨q4, q6⟩
                · exact .inl q4
                · refine .inr ⟨q4, ?_⟩
                  rcases q6 with q6 | ⟨q6, _⟩
                  · exact .inl q6
                  · exact absurd ⟨q6, hW⟩ hnr
          · have hee : envA env0 (done ++ (⟨i, ci, o, envA env0 done, V⟩ : PE) :: new) = envA ((envA env0 done).put o.dst V) new := by
              rw [← heA]
              simp [envT]
            rw [hee]
            exact h2
          · have hxi : x.1 ≠ i := fun e => hnd3.1 (by rw [← e]; exact List.mem_append_right _ (List.mem_append_left _ (List.mem_map_of_mem hx)))
            rw [tof_set hs, if_neg hxi]
            exact hT'new x (by rw [h1]; exact List.mem_append_right _ hx)
          · have hxi : x.1 ≠ i := fun e => (List.nodup_cons.1 (List.nodup_append.1 (hndT t ht)).2.1).1 (by rw [← e]; exact List.mem_append_right _ (List.mem_append_right _ (List.mem_map_of_mem hx)))
            rw [tof_set hs, if_neg hxi]
            exact hT'tnew t ht x hx
          · have hT' : ∀ x ∈ done, Tof (listed.setIfInBounds i true) x.i = Tof listed x.i := fun x hx => by rw [tof_set hs, if_neg (hne x hx)]
            have hnewf : ∀ x ∈ new, Tof (listed.setIfInBounds i true) x.i = false := fun x hx => by
              have hxi : x.i ≠ i := fun e => hnd3.1 (by rw [← e]; exact List.mem_append_left _ (List.mem_map_of_mem hx))
              rw [tof_set hs, if_neg hxi]
              exact hT'new (x.i, x.c) (by rw [h1]; exact List.mem_append_left _ (List.mem_map_of_mem hx))
            rw [envT_app, envT_congr hT'] at ht
            have hcons : envT (Tof (listed.setIfInBounds i true)) (envT (Tof listed) env0 done) (⟨i, ci, o, envA env0 done, V⟩ :: new) = envT (Tof (listed.setIfInBounds i true)) ((envT (Tof listed) env0 done).put o.dst V) new := by simp [envT, tof_set hs]
            rw [hcons, envT_skip (fun x hx hf => by rw [hnewf x hx] at hf; cases hf)] at ht
            have hr' := (g2.grow hg).put (dst := o.dst) hv fun t ht => Nat.lt_of_lt_of_le (okOps_dst hok ho t ht) g3
            rw [ha']
            exact hr' t d ht
          · rw [ha', put_size]; exact g3
          · rw [ha', put_defers']; exact g4
        have hlf : leftN ops.size (listed.setIfInBounds i true) = fuel := by unfold leftN at h0 ⊢; omega
        unfold wpOpIn
        simp only [ho]
        obtain ⟨o', ho', hrun⟩ := hT'run
        obtain rfl : o' = o := by rw [ho] at ho'; injection ho' with h; exact h.symm
        have hrun : (wantD ops (envA env0 done) o' = some false ∧ Run P ops X (fun e s => ∀ t ∈ T', Run P ops X Q t e s) lrest ((envA env0 done).put o'.dst .undef) σ) ∨ (wantD ops (envA env0 done) o' = some true ∧ ∃ R, StepY P o' (ev (envA env0 done)) σ R ∧ ∀ d σ', R d σ' → Run P ops X (fun e s => ∀ t ∈ T', Run P ops X Q t e s) lrest ((envA env0 done).put o'.dst d) σ') ∨ (wantD ops (envA env0 done) o' = some true ∧ ∃ e d τ, X e d τ ∧ DieT P o' (ev (envA env0 done)) σ τ d) := by
          rcases hrun with hrun | hrun | ⟨hw, e, d, τ, _, hx, hdie, _⟩
          · exact .inl hrun
          rotate_left
          · exact .inr (.inr ⟨hw, e, d, τ, hx, hdie⟩)
          refine .inr (.inl ?_)
          cases ci with
          | w => exact hrun
          | x => exact hrun
          | d => cases hW
          | r => cases hW
        rcases hrun with ⟨hw, hk⟩ | ⟨hw, R, hst, hk⟩ | ⟨hw, e₀, d, τ, hx, hdie⟩
        rotate_right
        · rw [wantD_spec hrep hw]
          simp only [if_true]
          obtain ⟨hx', hrd⟩ := hX e₀ d τ hx
          rw [hrd]
          refine wpIn_die (fun a' w' hh => hh.elim) (fun e a' w' hh => ?_) (wpIn_none (hdie K p a w g1 (evs_rep hok ho hrep)))
          obtain ⟨v, p', rfl, rfl, hv, hi2, hg⟩ := hh
          exact .inr ⟨v, d, τ, p', [], rfl, hx', hv, hi2, fun t d' ht => (by cases ht), g4⟩
        · rw [wantD_spec hrep hw]
          simp only [Bool.false_eq_true, if_false]
          obtain ⟨done', l'', hm⟩ := next _ w p Go.undef .undef σ rfl (by simp only [Rep]) g1 (Grow.refl p w) hk
          exact ⟨fun f _ => fw_fn _ f, ih _ _ _ _ _ _ _ hm hlf⟩
        · rw [wantD_spec hrep hw]
          simp only [if_true]
          refine wpIn_die (fun a' w' hh => ?_) (fun _ _ _ hh => hh.elim) (hst md.rd K p a w g1 (evs_rep hok ho hrep))
          obtain ⟨v, d, σ', p', ha', hR, hv, hi2, hg⟩ := hh
          obtain ⟨done', l'', hm⟩ := next a' w' p' v d σ' ha' hv hi2 hg (hk d σ' hR)
          exact ih _ _ _ _ _ _ _ hm hlf

theorem any_of {X : Env → D → St → Prop} {n : Nat} {md : Md} (hX : ∀ e d τ, X e d τ → X [] d τ ∧ md.rd = none) {K : Ctx} {env : Env} {σ : St} (hok : okOps ops n = true) (T : List (List (Nat × Cls))) (ord : List (Nat × Cls)) (hA : ∀ t ∈ T, okAny ops (ord ++ t) = true) (hT : ∃ t, t ∈ T) (hh : ∀ t ∈ T, t = [] ∨ ∃ i c t', t = (i, c) :: t' ∧ c.isW = true)
    (hp : ∀ t ∈ T, ∀ i t' j, t = (i, .x) :: t' → firstW t' = some j → ∃ t2 ∈ T, ∃ t2', t2 = (j, .x) :: t2') (hx : ∀ x ∈ ord, x.2 ≠ .x) (htx : ∀ t ∈ T, ∀ x ∈ t.tail, x.2 ≠ .x) (h : Run P ops X (fun e s => ∀ t ∈ T, Run P ops X Q t e s) ord env σ)
    {p : Addr → Prop} {a : Act} {w : World} (hi : Inv K p σ w) (hr : RelEnv p w env a) (hn : n ≤ a.tmps.size) (hd : a.defers = md.marks) :
    wpAnyIn (fw md.rd) 0 P .any ops (EndsR P K n md X Q) ops.size (Array.replicate ops.size false) a w := by
  obtain ⟨new, l', h1, h2, h3, h4⟩ := absorb (P := P) (Q := fun e s => ∀ t ∈ T, Run P ops X Q t e s) env σ ord env h
  have h0 : ∀ i, Tof (Array.replicate ops.size false) i = false := fun i => by
    unfold Tof
    rw [Array.getD_eq_getD_getElem?, Array.getElem?_replicate]
    split <;> rfl
  have hfuel : leftN ops.size (Array.replicate ops.size false) = ops.size := by
    unfold leftN left
    rw [List.filter_eq_self.2 fun x _ => by rw [h0]; rfl]
    simp
  refine any_run hX (P := P) (Q := Q) (K := K) (n := n) hok _ T new l' _ σ a w ⟨fun t ht => by have := hA t ht; rw [h1] at this; simpa using this, hT, fun d1 e d2 hh => ?_, h2, h4, hh, hp, fun x hxl => hx x (by rw [h1]; exact List.mem_append_right _ hxl), htx, fun x _ => h0 _, fun t _ x _ => h0 _, fun k' o _ hk => ?_, by simp, ⟨p, hi, ?_, hn, hd⟩⟩ hfuel
  · obtain ⟨q1, q2, q3, q4⟩ := h3 d1 e d2 hh
    exact ⟨q1, q2, fun _ => ⟨q3, q4⟩⟩
  · rw [h0] at hk; cases hk
  · have : envT (Tof (Array.replicate ops.size false)) env new = env := by
      have : ∀ (m : List PE), envT (Tof (Array.replicate ops.size false)) env m = env := by
        intro m
        induction m with
        | nil => rfl
        | cons x m ih => simp only [envT, List.foldl_cons, h0, Bool.false_eq_true, if_false] at ih ⊢; exact ih
      exact this new
    rw [this]
    exact hr
theorem g_any {m : Md} {f : FuncId} {fn : Func} {K : Ctx} {R : D → St → Prop} {k : List Item} {env : Env} {σ : St} {id : Nat} {l : List Oper} (hm : P.follows .mixedOrders = true) (hok : okOps l.toArray fn.ntmps = true) (ord : List (Nat × Cls)) (hA : okAny l.toArray ord = true)
    (h : Run P l.toArray NX (GoesG m P f fn K R k) ord env σ) (hx : ord.all (fun x => decide (x.2 ≠ .x)) = true := by rfl) : GoesG m P f fn K R (.code (.region id l.toArray true) :: k) env σ :=
  g_region (Q := GoesG m P f fn K R k) (X := NX) (fun p a w hi hr hn hd => wpIn_region_any hm (any_of (X := NX) (fun _ _ _ h => h.elim) (md := m) (P := P) (Q := GoesG m P f fn K R k) (K := K) (n := fn.ntmps) hok [[]] ord (fun t ht => by rw [List.mem_singleton.1 ht, List.append_nil]; exact hA) ⟨[], List.mem_singleton.2 rfl⟩ (fun t ht => .inl (List.mem_singleton.1 ht)) (fun t ht i t' j h _ => by rw [List.mem_singleton.1 ht] at h; cases h) (fun x hm => by simpa using List.all_eq_true.1 hx x hm) (fun t ht x hm => by rw [List.mem_singleton.1 ht] at hm; cases hm)
    (run_mono (fun e s h t ht => by rw [List.mem_singleton.1 ht]; exact h) _ _ _ h) hi.drew (hr.grow (grow_drew p w)) hn hd)) (fun _ _ _ h => h.elim) (fun _ _ h => h)
end
end Go.Proofs.Ytlannippingfdaa


namespace Go.Proofs.Ytlannippingfdaa
set_option maxRecDepth 100000
open Go.RowKit

section
variable {P : Program} {X : Env → D → St → Prop} {Q : Env → St → Prop} {l : List Oper} {i : Nat} {o : Oper} {t : Nat} {d : D} {env : Env} {σ : St} {rest : List (Nat × Cls)} {c : Cls}

def wantL (l : List Oper) (env : Env) (o : Oper) : Option Bool :=
  match o.guard with
  | none => some true
  | some (j, want) =>
    match (l[j]?).bind (·.dst) with
    | none => none
    | some t =>
      match lk env t with
      | some (.bool b) => some (b == want)
      | some .undef => some false
      | _ => none
theorem wantL_eq (l : List Oper) (env : Env) (o : Oper) : wantD l.toArray env o = wantL l env o := by
  unfold wantD wantL
  simp only [List.getElem?_toArray] <;> rfl

theorem r_end (h : Q env σ) : Run P l.toArray X Q [] env σ := h
theorem r_d (hi : l[i]? = some o) (ht : o.dst = some t) (hw : wantL l env o = some true) (hs : StepD P o (ev env) d) (h : Run P l.toArray X Q rest ((t, d) :: env) σ) : Run P l.toArray X Q ((i, .d) :: rest) env σ :=
  ⟨o, by simpa using hi, .inr (.inl ⟨by rw [wantL_eq]; exact hw, d, hs, by rw [ht]; exact h⟩)⟩
theorem r_r (hi : l[i]? = some o) (ht : o.dst = some t) (hw : wantL l env o = some true) (hs : StepS P o (ev env) σ fun d' σ' => d' = d ∧ σ' = σ) (h : Run P l.toArray X Q rest ((t, d) :: env) σ) : Run P l.toArray X Q ((i, .r) :: rest) env σ :=
  ⟨o, by simpa using hi, .inr (.inl ⟨by rw [wantL_eq]; exact hw, d, hs, by rw [ht]; exact h⟩)⟩
theorem r_w {R : D → St → Prop} (hi : l[i]? = some o) (ht : o.dst = some t) (hw : wantL l env o = some true) (hs : StepS P o (ev env) σ R) (h : ∀ d σ', R d σ' → Run P l.toArray X Q rest ((t, d) :: env) σ') : Run P l.toArray X Q ((i, .w) :: rest) env σ :=
  ⟨o, by simpa using hi, .inr (.inl ⟨by rw [wantL_eq]; exact hw, R, hs.y, fun d σ' hR => by rw [ht]; exact h d σ' hR⟩)⟩
theorem r_w0 {R : D → St → Prop} (hi : l[i]? = some o) (ht : o.dst = none) (hw : wantL l env o = some true) (hs : StepS P o (ev env) σ R) (h : ∀ d σ', R d σ' → Run P l.toArray X Q rest env σ') : Run P l.toArray X Q ((i, .w) :: rest) env σ :=
  ⟨o, by simpa using hi, .inr (.inl ⟨by rw [wantL_eq]; exact hw, R, hs.y, fun d σ' hR => by rw [ht]; exact h d σ' hR⟩)⟩
theorem r_y {R : D → St → Prop} (hi : l[i]? = some o) (ht : o.dst = some t) (hw : wantL l env o = some true) (hs : StepY P o (ev env) σ R) (h : ∀ d σ', R d σ' → Run P l.toArray X Q rest ((t, d) :: env) σ') : Run P l.toArray X Q ((i, .w) :: rest) env σ :=
  ⟨o, by simpa using hi, .inr (.inl ⟨by rw [wantL_eq]; exact hw, R, hs, fun d σ' hR => by rw [ht]; exact h d σ' hR⟩)⟩
theorem r_w01 {o' : List Ob} (hi : l[i]? = some o) (ht : o.dst = none) (hw : wantL l env o = some true) (hs : StepS P o (ev env) σ fun _ σ' => σ' = o') (h : Run P l.toArray X Q rest env o') : Run P l.toArray X Q ((i, .w) :: rest) env σ :=
  r_w0 hi ht hw hs fun _ _ e2 => e2 ▸ h
/-- Its result is known, and the objects stay. -/
theorem r_wr (hi : l[i]? = some o) (ht : o.dst = some t) (hw : wantL l env o = some true) (hs : StepS P o (ev env) σ fun d' σ' => d' = d ∧ σ' = σ) (h : Run P l.toArray X Q rest ((t, d) :: env) σ) : Run P l.toArray X Q ((i, .w) :: rest) env σ :=
  r_w hi ht hw hs fun _ _ ⟨e1, e2⟩ => e1 ▸ e2 ▸ h
theorem r_skip (hi : l[i]? = some o) (ht : o.dst = some t) (hw : wantL l env o = some false) (h : Run P l.toArray X Q rest ((t, .undef) :: env) σ) : Run P l.toArray X Q ((i, c) :: rest) env σ :=
  ⟨o, by simpa using hi, .inl ⟨by rw [wantL_eq]; exact hw, by rw [ht]; exact h⟩⟩
theorem run_ext {P : Program} {Q : Env → St → Prop} {l : List Oper} : ∀ (rest : List (Nat × Cls)) (env env' : Env) (σ : St), (∀ t, lk env t = lk env' t) → Run P l.toArray X Q rest env σ → (∀ e e' : Env, ∀ σ, (∀ t, lk e t = lk e' t) → Q e σ → Q e' σ) → Run P l.toArray X Q rest env' σ := by
    intro rest
    induction rest with
    | nil => exact fun env env' σ he h hq => hq env env' σ he h
    | cons x rest ih =>
      obtain ⟨i, c⟩ := x
      intro env env' σ he h hq
      obtain ⟨o, ho, h⟩ := h
      have hwe : wantD l.toArray env' o = wantD l.toArray env o := by
        unfold wantD
        split
        · rfl
        · split
          · rfl
          · rw [he]
      have hee : ev env' = ev env := by
        funext x
        cases x <;> simp [ev, he]
      have hput : ∀ d, ∀ t, lk (env.put o.dst d) t = lk (env'.put o.dst d) t := fun d t => by simp only [look_put, he]
      refine ⟨o, ho, ?_⟩
      rw [hwe, hee]
      rcases h with ⟨hw, h⟩ | ⟨hw, h⟩ | h
      · exact .inl ⟨hw, ih _ _ _ (hput _) h hq⟩
      rotate_left
      · obtain ⟨hw, e₀, d, τ, he₀, hx, h⟩ := h
        exact .inr (.inr ⟨hw, e₀, d, τ, fun t => (he₀ t).trans (he t), hx, h⟩)
      · refine .inr (.inl ⟨hw, ?_⟩)
        cases c with
        | d => obtain ⟨d, h1, h2⟩ := h; exact ⟨d, h1, ih _ _ _ (hput d) h2 hq⟩
        | r => obtain ⟨d, h1, h2⟩ := h; exact ⟨d, h1, ih _ _ _ (hput d) h2 hq⟩
        | w => obtain ⟨R, h1, h2⟩ := h; exact ⟨R, h1, fun d σ' hR => ih _ _ _ (hput d) (h2 d σ' hR) hq⟩
        | x => obtain ⟨R, h1, h2⟩ := h; exact ⟨R, h1, fun d σ' hR => ih _ _ _ (hput d) (h2 d σ' hR) hq⟩
theorem goes_ext {m : Md} {f : FuncId} {fn : Func} {K : Ctx} {R : D → St → Prop} {k : List Item} (e e' : Env) (σ : St) (h : ∀ t, lk e t = lk e' t) (hg : GoesG m P f fn K R k e σ) : GoesG m P f fn K R k e' σ :=
  g_sub e (fun t d ht => ⟨d, by rw [← h t]; exact ht, Wk.refl d⟩) hg
theorem r_split {m : Md} {f : FuncId} {fn : Func} {K : Ctx} {R : D → St → Prop} {k : List Item} (s : Nat) {b : Bool} (hs : lk env s = some (.bool b)) (h1 : b = true → Run P l.toArray X (GoesG m P f fn K R k) rest ((s, .bool true) :: env) σ) (h2 : b = false → Run P l.toArray X (GoesG m P f fn K R k) rest ((s, .bool false) :: env) σ) : Run P l.toArray X (GoesG m P f fn K R k) rest env σ := by
  have he : ∀ t, lk ((s, D.bool b) :: env) t = lk env t := fun t => by
    rw [look_cons]
    split
    · rename_i h; subst h; exact hs.symm
    · rfl
  cases b with
  | true => exact run_ext rest _ env σ he (h1 rfl) goes_ext
  | false => exact run_ext rest _ env σ he (h2 rfl) goes_ext
theorem g_split {m : Md} {f : FuncId} {fn : Func} {K : Ctx} {R : D → St → Prop} {k : List Item} (s : Nat) {b : Bool} (hs : lk env s = some (.bool b)) (h1 : b = true → GoesG m P f fn K R k ((s, .bool true) :: env) σ) (h2 : b = false → GoesG m P f fn K R k ((s, .bool false) :: env) σ) : GoesG m P f fn K R k env σ := by
  have he : ∀ t, lk ((s, D.bool b) :: env) t = lk env t := fun t => by
    rw [look_cons]
    split
    · rename_i h; subst h; exact hs.symm
    · rfl
  cases b with
  | true => exact goes_ext _ env σ he (h1 rfl)
  | false => exact goes_ext _ env σ he (h2 rfl)
end
end Go.Proofs.Ytlannippingfdaa


namespace Go.Proofs.Ytlannippingfdaa
set_option maxRecDepth 100000
open Go.RowKit

section
variable {P : Program} {o : Oper} {ρ : Operand → Option D} {d : D}

theorem stepD_of (h : ∀ (p : Addr → Prop) (a : Act) (w : World), (∀ x ∈ o.op.operands, ∀ d, ρ x = some d → Rep p w d (a.eval x)) → ∃ v, (execOp a.eval o).run P w = .ok (.value v) w ∧ Rep p w d v) : StepD P o ρ d := fun σ K p a w hi hx => by
  obtain ⟨v, h1, h2⟩ := h p a w hx
  unfold Oper.wp
  rw [h1]
  exact ⟨v, d, σ, p, rfl, ⟨rfl, rfl⟩, h2, hi, Grow.refl p w⟩

theorem s_move {x : Operand} (ho : o.op = .move x) (hx : ρ x = some d) : StepD P o ρ d := stepD_of fun p a w h =>
  ⟨a.eval x, by unfold execOp; rw [ho]; rfl, h x (by rw [ho]; simp [Op.operands]) d hx⟩
theorem s_assign {x : Operand} (ho : o.op = .assign x) (hx : ρ x = some d) : StepD P o ρ d := stepD_of fun p a w h =>
  ⟨a.eval x, by unfold execOp; rw [ho]; rfl, h x (by rw [ho]; simp [Op.operands]) d hx⟩
theorem s_pick {c x y : Operand} {b : Bool} (ho : o.op = .pick c x y) (hc : ρ c = some (.bool b)) (hx : b = true → ρ x = some d) (hy : b = false → ρ y = some d) : StepD P o ρ d := stepD_of fun p a w h => by
  have h1 := h c (by rw [ho]; simp [Op.operands]) _ hc
  simp only [Rep] at h1
  cases b with
  | true => exact ⟨a.eval x, by unfold execOp; rw [ho]; simp [h1, asBool], h x (by rw [ho]; simp [Op.operands]) d (hx rfl)⟩
  | false => exact ⟨a.eval y, by unfold execOp; rw [ho]; simp [h1, asBool], h y (by rw [ho]; simp [Op.operands]) d (hy rfl)⟩
theorem s_pickT {c x y : Operand} (ho : o.op = .pick c x y) (hc : ρ c = some (.bool true)) (hx : ρ x = some d) : StepD P o ρ d := s_pick ho hc (fun _ => hx) fun h => by cases h
theorem s_pickF {c x y : Operand} (ho : o.op = .pick c x y) (hc : ρ c = some (.bool false)) (hx : ρ y = some d) : StepD P o ρ d := s_pick ho hc (fun h => by cases h) fun _ => hx
theorem s_not {x : Operand} {t : TypeId} {b : Bool} (ho : o.op = .unOp .not t x) (hx : ρ x = some (.bool b)) : StepD P o ρ (.bool (!b)) := stepD_of fun p a w h => by
  have h1 := h x (by rw [ho]; simp [Op.operands]) _ hx
  simp only [Rep] at h1
  exact ⟨.bool (!b), by unfold execOp; rw [ho]; simp [h1, Op.unary], by simp only [Rep]⟩
theorem s_extract {x : Operand} {ix : Nat} {ds : List D} (ho : o.op = .extract x ix) (hx : ρ x = some (.tup ds)) (hd : ds[ix]? = some d) : StepD P o ρ d := stepD_of fun p a w h => by
  have h1 := h x (by rw [ho]; simp [Op.operands]) _ hx
  simp only [Rep] at h1
  obtain ⟨vs, h1, h2⟩ := h1
  obtain ⟨v, h3, h4⟩ := h2.at_ hd
  exact ⟨v, by unfold execOp; rw [ho]; simp [h1, Instr.extract, h3], h4⟩

/-! ### numbers and strings -/
def icmp : BinOp → Int → Int → Option Bool
  | .eql, x, y => some (x == y)
  | .neq, x, y => some (x != y)
  | .lss, x, y => some (decide (x < y))
  | .leq, x, y => some (decide (x ≤ y))
  | .gtr, x, y => some (decide (x > y))
  | .geq, x, y => some (decide (x ≥ y))
  | _, _, _ => none
theorem s_cmp {op : BinOp} {t t' : TypeId} {x y : Operand} {k : IntKind} {m n : Int} {b : Bool} (ho : o.op = .binOp op t x y t') (hx : ρ x = some (.int k m)) (hy : ρ y = some (.int k n)) (hb : icmp op m n = some b) : StepD P o ρ (.bool b) := stepD_of fun p a w h => by
  have h1 := h x (by rw [ho]; simp [Op.operands]) _ hx
  have h2 := h y (by rw [ho]; simp [Op.operands]) _ hy
  simp only [Rep] at h1 h2
  refine ⟨.bool b, ?_, by simp only [Rep]⟩
  unfold execOp
  rw [ho]
  simp only [h1.1, h2.1]
  cases op <;> simp [icmp] at hb <;> subst hb <;> simp [binOp, eqGuard, Op.intCmp]
def iar : BinOp → Int → Int → Option Int
  | .add, x, y => some (x + y)
  | .sub, x, y => some (x - y)
  | .mul, x, y => some (x * y)
  | _, _, _ => none
theorem wrap_idem (k : IntKind) (n : Int) : k.wrap (k.wrap n) = k.wrap n := by
  cases k <;> simp [IntKind.wrap, IntKind.bits, IntKind.signed] <;> split <;> split <;> omega
theorem s_arW {op : BinOp} {t t' : TypeId} {x y : Operand} {k : IntKind} {m n r : Int} (ho : o.op = .binOp op t x y t') (hx : ρ x = some (.int k m)) (hy : ρ y = some (.int k n)) (hb : iar op m n = some r) : StepD P o ρ (.int k (k.wrap r)) := stepD_of fun p a w h => by
  have h1 := h x (by rw [ho]; simp [Op.operands]) _ hx
  have h2 := h y (by rw [ho]; simp [Op.operands]) _ hy
  simp only [Rep] at h1 h2
  refine ⟨.int k (k.wrap r), ?_, by simpa only [Rep, true_and] using wrap_idem k r⟩
  unfold execOp
  rw [ho]
  simp only [h1.1, h2.1]
  cases op <;> simp [iar] at hb <;> subst hb <;> simp [binOp, eqGuard, Op.intArith]
theorem wrap64 {n : Int} (h : -9223372036854775808 ≤ n ∧ n < 9223372036854775808) : IntKind.i64.wrap n = n := by
  simp only [IntKind.wrap, IntKind.bits, IntKind.signed]
  simp
  split <;> omega
theorem wrap64_inv {n : Int} (h : IntKind.i64.wrap n = n) : -9223372036854775808 ≤ n ∧ n < 9223372036854775808 := by
  simp only [IntKind.wrap, IntKind.bits, IntKind.signed] at h
  simp at h
  split at h <;> omega
theorem s_ar {op : BinOp} {t t' : TypeId} {x y : Operand} {m n r : Int} (ho : o.op = .binOp op t x y t') (hx : ρ x = some (.int .i64 m)) (hy : ρ y = some (.int .i64 n)) (hb : iar op m n = some r) (hr : -9223372036854775808 ≤ r ∧ r < 9223372036854775808) : StepD P o ρ (.int .i64 r) := by
  have := s_arW (P := P) ho hx hy hb
  rw [wrap64 hr] at this
  exact this
def scmp : BinOp → ByteArray → ByteArray → Option Bool
  | .eql, x, y => some (x.toList == y.toList)
  | .neq, x, y => some (!(x.toList == y.toList))
  | .lss, x, y => some (Op.bytesLess x.toList y.toList)
  | .leq, x, y => some (Op.bytesLess x.toList y.toList || x.toList == y.toList)
  | .gtr, x, y => some (!(Op.bytesLess x.toList y.toList || x.toList == y.toList))
  | .geq, x, y => some (!Op.bytesLess x.toList y.toList)
  | _, _, _ => none
theorem s_cmpS {op : BinOp} {t t' : TypeId} {x y : Operand} {m n : ByteArray} {b : Bool} (ho : o.op = .binOp op t x y t') (hx : ρ x = some (.str m)) (hy : ρ y = some (.str n)) (hb : scmp op m n = some b) : StepD P o ρ (.bool b) := stepD_of fun p a w h => by
  have h1 := h x (by rw [ho]; simp [Op.operands]) _ hx
  have h2 := h y (by rw [ho]; simp [Op.operands]) _ hy
  simp only [Rep] at h1 h2
  refine ⟨.bool b, ?_, by simp only [Rep]⟩
  unfold execOp
  rw [ho]
  simp only [h1.1, h2.1]
  cases op <;> simp only [scmp, Option.some.injEq, reduceCtorEq] at hb <;> subst hb <;> simp [binOp, eqGuard, Op.stringOp]
/-! ### lists -/
/-- Data that are shown as a slice over l. -/
inductive AsL : D → List D → Prop
  | lst (l : List D) : AsL (.lst l) l
  | full (l : List D) : AsL (.full l) l
  | own (u : Value) (l : List D) : AsL (.own u l) l
theorem AsL.rep {d : D} {l : List D} {p : Addr → Prop} {w : World} {v : Value} (h : AsL d l) (hv : Rep p w d v) : ∃ A c xs, v = .slice A l.length c ∧ l.length ≤ c ∧ c ≤ 9223372036854775807 ∧ RdP p w A xs ∧ Reps p w l xs ∧ ∀ u ∈ xs, u.oneCell' = true := by
  cases h with
  | lst => simpa only [Rep] using hv
  | full => simp only [Rep] at hv; obtain ⟨A, xs, h1, h2, h3⟩ := hv; exact ⟨A, _, xs, h1, Nat.le_refl _, h2, h3⟩
  | own => simp only [Rep] at hv; obtain ⟨rfl, hv⟩ := hv; exact hv
def asL : D → Option (List D)
  | .lst l => some l
  | .full l => some l
  | .own _ l => some l
  | _ => none
theorem asl {d : D} {l : List D} (h : asL d = some l) : AsL d l := by
  cases d <;> simp only [asL, Option.some.injEq, reduceCtorEq] at h <;> subst h <;> constructor
theorem s_len {x : Operand} {t e : TypeId} {dx : D} {l : List D} (ho : o.op = .call { callee := .builtin .len, args := #[x], argTypes := #[t] }) (ht : P.underlying t = some (.slice e)) (hx : ρ x = some dx) (hl : AsL dx l) : StepD P o ρ (.int .i64 (l.length : Int)) := stepD_of fun p a w h => by
  obtain ⟨A, c, xs, h1, h2, h3, _⟩ := hl.rep (h x (by rw [ho]; simp [Op.operands, Call.operands]) _ hx)
  refine ⟨.int .i64 (l.length : Int), ?_, by simpa only [Rep, true_and] using wrap64 (by omega)⟩
  unfold execOp
  rw [ho]
  simp [resolve, invoke, builtin, h1, Builtin.len_, run_underlying ht, goInt]
theorem s_lenS {x : Operand} {t : TypeId} {s : ByteArray} (ho : o.op = .call { callee := .builtin .len, args := #[x], argTypes := #[t] }) (ht : P.underlying t = some .string) (hx : ρ x = some (.str s)) : StepD P o ρ (.int .i64 (s.size : Int)) := stepD_of fun p a w h => by
  have h1 := h x (by rw [ho]; simp [Op.operands, Call.operands]) _ hx
  simp only [Rep] at h1
  refine ⟨.int .i64 (s.size : Int), ?_, by simpa only [Rep, true_and] using wrap64 (by omega)⟩
  unfold execOp
  rw [ho]
  simp [resolve, invoke, builtin, h1.1, Builtin.len_, run_underlying ht, goInt]
theorem s_lenA {x : Operand} {t e : TypeId} {b s lo n : Nat} (ho : o.op = .call { callee := .builtin .len, args := #[x], argTypes := #[t] }) (ht : P.underlying t = some (.slice e)) (hx : ρ x = some (.arr b s lo n)) : StepD P o ρ (.int .i64 (n : Int)) := stepD_of fun p a w h => by
  have h1 := h x (by rw [ho]; simp [Op.operands, Call.operands]) _ hx
  simp only [Rep] at h1
  obtain ⟨A, c, h1, h2, h3, _⟩ := h1
  refine ⟨.int .i64 (n : Int), ?_, by simpa only [Rep, true_and] using wrap64 (by omega)⟩
  unfold execOp
  rw [ho]
  simp [resolve, invoke, builtin, h1, Builtin.len_, run_underlying ht, goInt]
/-- An element's address. -/
theorem s_index {t e : TypeId} {x ix : Operand} {dx : D} {l : List D} {k : IntKind} {n : Int} {j s : Nat} (ho : o.op = .indexAddr t x ix) (ht : P.underlying t = some (.slice e)) (hs : (P.info? e).map (·.size) = some s) (hs0 : 0 < s) (hx : ρ x = some dx) (hl : AsL dx l) (hix : ρ ix = some (.int k n)) (hn : n = (j : Int)) (hd : l[j]? = some d) (hall : AllSz s l) (hp : d.plain = true) : StepD P o ρ (.ptr d) := stepD_of fun p a w h => by
  obtain ⟨A, c, xs, h1, h2, h3, h4, h5, h6⟩ := hl.rep (h x (by rw [ho]; simp [Op.operands]) _ hx)
  have h7 := h ix (by rw [ho]; simp [Op.operands]) _ hix
  simp only [Rep] at h7
  subst hn
  have hj := (List.getElem?_eq_some_iff.1 hd).1
  obtain ⟨v, hv, hcell⟩ := h5.at_cell hd
  obtain ⟨i, hi, hin⟩ := Option.map_eq_some_iff.1 hs
  have hsz := Rep.sz hv
  rw [(hall.take j).szs] at hcell
  have hmin : (l.take j).length = j := by simp; omega
  rw [hmin] at hcell
  have hlen : xs.length = l.length * s := by rw [h5.len, hall.szs]
  rcases h4 with h4 | ⟨b, o', rfl, hc⟩
  · exfalso
    have : 0 < l.length * s := Nat.mul_pos (by omega) hs0
    rw [h4] at hlen
    simp at hlen
    omega
  · refine ⟨.pointer (some ⟨b, o' + j * s, none⟩), ?_, ?_⟩
    · unfold execOp
      rw [ho]
      have hlt : ((j : Int) < (l.length : Int)) := by omega
      simp [h1, h7.1, Instr.indexAt, asIntOf, run_underlying ht, sizeOf, typeInfo, hi, hin, hj, addF]
    · simp only [Rep]
      refine ⟨b, o' + j * s, v, rfl, .inr ⟨b, o' + j * s, rfl, fun m u hu => ?_⟩, hv, Rep.one hv hp⟩
      have := hc _ _ (hcell m u hu)
      rw [← Nat.add_assoc] at this
      exact this
end
end Go.Proofs.Ytlannippingfdaa


namespace Go.Proofs.Ytlannippingfdaa
set_option maxRecDepth 100000
open Go.RowKit

section
variable {P : Program} {o : Oper} {ρ : Operand → Option D} {d : D}

/-- A field's place. -/
def Fld (P : Program) (s : TypeId) (f off : Nat) : Prop := ∃ fields fld n, P.underlying s = some (.struct fields) ∧ fields[f]? = some fld ∧ fld.offset = off ∧ (P.info? fld.type).map (·.size) = some n ∧ n ≠ 0
theorem run_fieldAt {s : TypeId} {f off : Nat} (h : Fld P s f off) (w : World) (b ofs : Nat) : (Instr.fieldAt s (.pointer (some ⟨b, ofs, none⟩)) f).run P w = .ok (.pointer (some ⟨b, ofs + off, none⟩)) w := by
  obtain ⟨fields, fld, n, h1, h2, rfl, h3, h4⟩ := h
  obtain ⟨i, hi, hn⟩ := Option.map_eq_some_iff.1 h3
  have hn' : ¬ i.size = 0 := by omega
  simp [Instr.fieldAt, run_underlying h1, h2, Instr.sureAddr, fieldPlace, sizeOf, typeInfo, hi, hn', addF]
theorem s_fieldAddr {s : TypeId} {x : Operand} {f off : Nat} {fs : List D} (ho : o.op = .fieldAddr s x f) (hF : Fld P s f off) (hx : ρ x = some (.ptr (.agg fs))) (hd : fs[f]? = some d) (hoff : szs (fs.take f) = off) (hp : d.plain = true) : StepD P o ρ (.ptr d) := stepD_of fun p a w h => by
  have h1 := h x (by rw [ho]; simp [Op.operands]) _ hx
  simp only [Rep] at h1
  obtain ⟨b, o', u, h1, h2, ⟨cs, rfl, h3, _⟩, h4⟩ := h1
  obtain ⟨v, hv, hcell⟩ := h3.at_cell hd
  refine ⟨.pointer (some ⟨b, o' + off, none⟩), ?_, ?_⟩
  · unfold execOp
    rw [ho]
    simp [h1, run_fieldAt hF]
  · simp only [Rep]
    refine ⟨b, o' + off, v, rfl, ?_, hv, Rep.one hv hp⟩
    rcases h2 with h2 | ⟨b', o'', he, h2⟩
    · refine .inl (List.eq_nil_iff_forall_not_mem.2 fun y hy => ?_)
      obtain ⟨j, hj⟩ := List.mem_iff_getElem?.1 hy
      have := hcell j y hj
      simp [Value.cells] at h2
      rw [h2] at this
      simp at this
    · injection he with he; injection he with e1 e2; subst e1 e2
      refine .inr ⟨b, o' + off, rfl, fun j y hj => ?_⟩
      have := h2 _ y (by simpa [Value.cells] using hcell j y hj)
      rw [hoff, ← Nat.add_assoc] at this
      exact this
theorem s_fieldRef {s : TypeId} {x : Operand} {f off b ofs : Nat} {path : List Nat} (ho : o.op = .fieldAddr s x f) (hF : Fld P s f off) (hx : ρ x = some (.ref b ofs path)) : StepD P o ρ (.ref b (ofs + off) (path ++ [f])) := stepD_of fun p a w h => by
  have h1 := h x (by rw [ho]; simp [Op.operands]) _ hx
  simp only [Rep] at h1
  refine ⟨.pointer (some ⟨b, ofs + off, none⟩), ?_, by simp only [Rep]⟩
  unfold execOp
  rw [ho]
  simp [h1, run_fieldAt hF]
theorem s_load {t : TypeId} {x : Operand} {n : Nat} (ho : o.op = .load t x) (hx : ρ x = some (.ptr d)) (ht : Ty P t d.isAgg n) (hn : sz d = n) : StepD P o ρ d := stepD_of fun p a w h => by
  have h1 := h x (by rw [ho]; simp [Op.operands]) _ hx
  simp only [Rep] at h1
  obtain ⟨b, o', u, h1, h2, h3, h4⟩ := h1
  have hl := run_loadVar (P := P) (b := b) (o := o') ht hn h3 (fun j y hy => by
    rcases h2 with h2 | ⟨b', o'', he, h2⟩
    · rw [h2] at hy; simp at hy
    · injection he with he; injection he with e1 e2; subst e1 e2
      exact (h2 j y hy).2)
  refine ⟨u, ?_, h3⟩
  unfold execOp
  rw [ho]
  simp [h1, Instr.loadAt, Instr.sureAddr, hl]
theorem s_makeFunc {fn : Fn} {first cap : Array Operand} {fs cs : List D} (ho : o.op = .makeFunc fn first cap) (hf : first.toList.mapM ρ = some fs) (hc : cap.toList.mapM ρ = some cs) : StepD P o ρ (.clo fn fs cs) := stepD_of fun p a w h => by
  have key : ∀ (l : List Operand) (ds : List D), (∀ x ∈ l, ∀ d, ρ x = some d → Rep p w d (a.eval x)) → l.mapM ρ = some ds → Repl p w ds (l.map a.eval) := by
    intro l
    induction l with
    | nil => intro ds _ hm; simp at hm; subst hm; exact Repl.nil _ _
    | cons x l ih =>
      intro ds hh hm
      simp only [List.mapM_cons] at hm
      cases hx : ρ x with
      | none => simp [hx] at hm
      | some e =>
        cases hl : l.mapM ρ with
        | none => simp [hx, hl] at hm
        | some es =>
          simp [hx, hl] at hm
          subst hm
          exact Repl.cons (hh x (List.mem_cons_self ..) e hx) (ih es (fun y hy => hh y (List.mem_cons_of_mem _ hy)) hl)
  refine ⟨.func fn (first.map a.eval) (cap.map a.eval), ?_, ?_⟩
  · unfold execOp
    rw [ho]
    simp [Instr.makeFunc]
  · simp only [Rep]
    refine ⟨first.toList.map a.eval, cap.toList.map a.eval, ?_, key _ _ (fun x hx => h x (by rw [ho]; simp only [Op.operands]; exact Array.mem_append.2 (.inl (by simpa using hx)))) hf, key _ _ (fun x hx => h x (by rw [ho]; simp only [Op.operands]; exact Array.mem_append.2 (.inr (by simpa using hx)))) hc⟩
    congr 1 <;> (apply Array.toList_inj.1; simp)

/-! ### structs -/
def isNilU : Value → Bool
  | .slice none 0 0 => true
  | _ => false
theorem isNilU_eq {u : Value} (h : isNilU u = true) : u = .slice none 0 0 := by
  unfold isNilU at h
  split at h
  · rfl
  · cases h
mutual
/-- The cells of a zero datum. -/
def zc : D → List Value
  | .bool b => [.bool b]
  | .int k n => [.int k n]
  | .str s => [.string s]
  | .lst [] => [.slice none 0 0]
  | .own _ _ => [.slice none 0 0]
  | .vec _ _ => [.slice none 0 0]
  | .nilf => [.nilFunc]
  | .nilm => [.map none]
  | .nilp => [.pointer none]
  | .agg fs => zcs fs
  | _ => []
def zcs : List D → List Value
  | [] => []
  | d :: ds => zc d ++ zcs ds
end
mutual
def zok : D → Bool
  | .bool _ => true
  | .int k n => k.wrap n == n
  | .str s => decide (s.size ≤ 9223372036854775807)
  | .lst [] => true
  | .own u l => isNilU u && l.isEmpty
  | .vec u n => isNilU u && n == 0
  | .nilf => true
  | .nilm => true
  | .nilp => true
  | .agg fs => zoks fs
  | _ => false
def zoks : List D → Bool
  | [] => true
  | d :: ds => zok d && zoks ds
end
mutual
theorem zc_rep (p : Addr → Prop) (w : World) : ∀ (d : D), zok d = true → ∃ v, Rep p w d v ∧ v.cells.toList = zc d ∧ ∀ u ∈ zc d, u.oneCell' = true
  | .bool b, _ => ⟨.bool b, by simp only [Rep], rfl, by simp [zc, Value.oneCell']⟩
  | .int k n, h => ⟨.int k n, by simpa [Rep, zok] using h, rfl, by simp [zc, Value.oneCell']⟩
  | .str s, h => ⟨.string s, by simpa [Rep, zok] using h, rfl, by simp [zc, Value.oneCell']⟩
  | .lst [], _ => ⟨.slice none 0 0, by simp only [Rep]; exact ⟨none, 0, [], rfl, by simp, by omega, .inl rfl, Reps.nil _ _, by simp⟩, rfl, by simp [zc, Value.oneCell']⟩
  | .lst (_ :: _), h => by simp [zok] at h
  | .nilf, _ => ⟨.nilFunc, by simp only [Rep], rfl, by simp [zc, Value.oneCell']⟩
  | .nilm, _ => ⟨.map none, by simp only [Rep], rfl, by simp [zc, Value.oneCell']⟩
  | .nilp, _ => ⟨.pointer none, by simp only [Rep], rfl, by simp [zc, Value.oneCell']⟩
  | .agg fs, h => by
    have h' : zoks fs = true := by simpa [zok] using h
    obtain ⟨h1, h2⟩ := zcs_rep p w fs h'
    exact ⟨.agg (zcs fs).toArray, by simp only [Rep]; exact ⟨zcs fs, rfl, h1, h2⟩, by simp [Value.cells, zc], by simpa [zc] using h2⟩
  | .full _, h => by simp [zok] at h
  | .own u l, h => by
    simp only [zok, Bool.and_eq_true] at h
    obtain rfl := isNilU_eq h.1
    obtain rfl : l = [] := by simpa using h.2
    exact ⟨.slice none 0 0, by simp only [Rep]; exact ⟨trivial, none, 0, [], rfl, by simp, by omega, .inl rfl, Reps.nil _ _, by simp⟩, by simp [zc, Value.cells], by simp [zc, Value.oneCell']⟩
  | .vec u n, h => by
    simp only [zok, Bool.and_eq_true, beq_iff_eq] at h
    obtain rfl := isNilU_eq h.1
    obtain rfl := h.2
    exact ⟨.slice none 0 0, by simp only [Rep]; exact ⟨trivial, none, 0, rfl, by omega, by omega⟩, by simp [zc, Value.cells], by simp [zc, Value.oneCell']⟩
  | .ptr _, h => by simp [zok] at h
  | .ref _ _ _, h => by simp [zok] at h
  | .mref _ _ _ _ _, h => by simp [zok] at h
  | .arr _ _ _ _, h => by simp [zok] at h
  | .clo _ _ _, h => by simp [zok] at h
  | .map _, h => by simp [zok] at h
  | .ifc _ _, h => by simp [zok] at h
  | .nili, h => by simp [zok] at h
  | .tup _, h => by simp [zok] at h
  | .undef, h => by simp [zok] at h
theorem zcs_rep (p : Addr → Prop) (w : World) : ∀ (ds : List D), zoks ds = true → Reps p w ds (zcs ds) ∧ ∀ u ∈ zcs ds, u.oneCell' = true
  | [], _ => ⟨Reps.nil _ _, by simp [zcs]⟩
  | d :: ds, h => by
    simp only [zoks, Bool.and_eq_true] at h
    obtain ⟨v, h1, h2, h3⟩ := zc_rep p w d h.1
    obtain ⟨h4, h5⟩ := zcs_rep p w ds h.2
    refine ⟨?_, fun u hu => ?_⟩
    · rw [zcs, ← h2]; exact Reps.cons h1 h4
    · rcases List.mem_append.1 (by simpa [zcs] using hu) with hu | hu
      · exact h3 u hu
      · exact h5 u hu
end
/-- Where data lie, one behind the other. -/
def lay (off : Nat) : List D → List (Nat × Nat)
  | [] => []
  | d :: ds => (off, sz d) :: lay (off + sz d) ds
theorem lay_at : ∀ (ds : List D) (off i : Nat) (d : D), ds[i]? = some d → (lay off ds)[i]? = some (off + szs (ds.take i), sz d)
  | [], _, _, _, h => by simp at h
  | e :: ds, off, 0, d, h => by simp at h; subst h; simp [lay, szs]
  | e :: ds, off, i + 1, d, h => by
    simp at h
    rw [lay, List.getElem?_cons_succ, lay_at ds _ i d h]
    simp [szs, Nat.add_assoc]
/-- A struct type whose zero value shows zs. -/
def BuildT (P : Program) (t : TypeId) (zs : List D) : Prop := zoks zs = true ∧ ∃ it fields, P.info? t = some it ∧ it.zero = some (.agg (zcs zs).toArray) ∧ P.underlying t = some (.struct fields) ∧ fields.toList.mapM (fun f => (P.info? f.type).map fun i => (f.offset, i.size)) = some (lay 0 zs)
theorem BuildT.mk {t : TypeId} {zs : List D} {fields : Array Field} (h1 : zoks zs = true) (h2 : (P.info? t).map (·.zero) = some (some (.agg (zcs zs).toArray))) (h3 : P.underlying t = some (.struct fields)) (h4 : fields.toList.mapM (fun f => (P.info? f.type).map fun i => (f.offset, i.size)) = some (lay 0 zs)) : BuildT P t zs := by
  obtain ⟨it, h5, h6⟩ := Option.map_eq_some_iff.1 h2
  exact ⟨h1, it, fields, h5, h6, h3, h4⟩

theorem fold_set (off : Nat) : ∀ (xs : List Value) (k : Nat) (cells : Array Value), off + k + xs.length ≤ cells.size →
    ((xs.zipIdx k).foldl (fun cs (p : Value × Nat) => cs.setIfInBounds (off + p.2) p.1) cells).toList = cells.toList.take (off + k) ++ xs ++ cells.toList.drop (off + k + xs.length)
  | [], k, cells, _ => by simp
  | x :: xs, k, cells, h => by
    simp only [List.zipIdx_cons, List.foldl_cons]
    simp only [List.length_cons] at h
    rw [fold_set off xs (k + 1) _ (by simp; omega)]
    have hlt : off + k < cells.toList.length := by simp; omega
    simp only [Array.toList_setIfInBounds, List.length_cons]
    have e1 : (cells.toList.set (off + k) x).take (off + (k + 1)) = cells.toList.take (off + k) ++ [x] := by
      rw [← Nat.add_assoc, List.take_succ_eq_append_getElem (by simpa using hlt), List.take_set_of_le (Nat.le_refl _)]
      simp
    have e2 : (cells.toList.set (off + k) x).drop (off + (k + 1) + xs.length) = cells.toList.drop (off + k + (xs.length + 1)) := by
      rw [List.drop_set_of_lt (by omega)]
      congr 1
      omega
    rw [e1, e2]
    simp
theorem fill_one (place : Nat → Option (Nat × Nat)) (cells : Array Value) (i off : Nat) (v : Value) (rest : List (Nat × Value)) (hp : place i = some (off, v.cells.size)) (hs : off + v.cells.size ≤ cells.size) :
    Instr.fill place cells ((i, v) :: rest) = Instr.fill place (cells.toList.take off ++ v.cells.toList ++ cells.toList.drop (off + v.cells.size)).toArray rest := by
  rw [Instr.fill]
  simp only [hp]
  rw [if_neg (by simp; omega)]
  congr 1
  apply Array.toList_inj.1
  have := fold_set off v.cells.toList 0 cells (by simp; omega)
  simp only [Nat.add_zero, Array.length_toList] at this
  rw [← this, ← Array.foldl_toList]
  simp [Array.toList_zipIdx]

/-- Fields are put in place. -/
inductive Fill : List D → List (Nat × D) → List D → Prop
  | nil (zs : List D) : Fill zs [] zs
  | cons {zs zs' : List D} {ps : List (Nat × D)} {i : Nat} {z d : D} (hz : zs[i]? = some z) (hs : sz d = sz z) (hp : d.plain = true) (h : Fill (zs.set i d) ps zs') : Fill zs ((i, d) :: ps) zs'
inductive Pts (ρ : Operand → Option D) : List (Nat × Operand) → List (Nat × D) → Prop
  | nil : Pts ρ [] []
  | cons {i : Nat} {x : Operand} {e d : D} {ps : List (Nat × Operand)} {ds : List (Nat × D)} (hx : ρ x = some e) (hw : Wk e d) (h : Pts ρ ps ds) : Pts ρ ((i, x) :: ps) ((i, d) :: ds)
theorem szs_set : ∀ (zs : List D) (i : Nat) (z d : D), zs[i]? = some z → sz d = sz z → szs (zs.set i d) = szs zs
  | [], _, _, _, h, _ => by simp at h
  | e :: zs, 0, z, d, h, hs => by simp at h; subst h; simp [szs, hs]
  | e :: zs, i + 1, z, d, h, hs => by simp at h; simp [szs, szs_set zs i z d h hs]
theorem lay_set : ∀ (zs : List D) (off i : Nat) (z d : D), zs[i]? = some z → sz d = sz z → lay off (zs.set i d) = lay off zs
  | [], _, _, _, _, h, _ => by simp at h
  | e :: zs, off, 0, z, d, h, hs => by simp at h; subst h; simp [lay, hs]
  | e :: zs, off, i + 1, z, d, h, hs => by simp at h; simp [lay, lay_set zs _ i z d h hs]
theorem Reps.set {p : Addr → Prop} {w : World} : ∀ {zs : List D} {cs : List Value} {i : Nat} {z d : D} {v : Value}, Reps p w zs cs → zs[i]? = some z → sz d = sz z → Rep p w d v → Reps p w (zs.set i d) (cs.take (szs (zs.take i)) ++ v.cells.toList ++ cs.drop (szs (zs.take i) + sz d))
  | [], _, _, _, _, _, _, h, _, _ => by simp at h
  | e :: zs, cs, 0, z, d, v, hr, h, hs, hv => by
    simp only [Reps] at hr
    obtain ⟨u, rest, rfl, h2, h3⟩ := hr
    simp at h
    subst h
    have hu : u.cells.toList.length = sz d := by rw [hs]; simpa using Rep.sz h2
    simp only [List.take_zero, szs, List.take_zero, List.nil_append, Nat.zero_add, List.set_cons_zero]
    rw [← hu, List.drop_left]
    exact Reps.cons hv h3
  | e :: zs, cs, i + 1, z, d, v, hr, h, hs, hv => by
    simp only [Reps] at hr
    obtain ⟨u, rest, rfl, h2, h3⟩ := hr
    simp at h
    have hu : u.cells.toList.length = sz e := by simpa using Rep.sz h2
    have := Reps.set h3 h hs hv
    simp only [List.take_succ_cons, szs, List.set_cons_succ]
    rw [← hu, List.take_length_add_append, Nat.add_assoc, List.drop_length_add_append, List.append_assoc, List.append_assoc]
    rw [List.append_assoc] at this
    exact Reps.cons h2 this
theorem fill_rep {p : Addr → Prop} {w : World} (place : Nat → Option (Nat × Nat)) : ∀ {zs zs' : List D} {pd : List (Nat × D)} {pv : List (Nat × Value)} {cs : List Value}, Fill zs pd zs' → Reps p w zs cs → (∀ u ∈ cs, u.oneCell' = true) →
    (∀ i z, zs[i]? = some z → place i = some (szs (zs.take i), sz z)) → (∀ i off n, place i = some (off, n) → (lay 0 zs)[i]? = some (off, n)) → pv.map (·.1) = pd.map (·.1) → Repl p w (pd.map (·.2)) (pv.map (·.2)) →
    ∃ cs', Instr.fill place cs.toArray pv = some cs'.toArray ∧ Reps p w zs' cs' ∧ ∀ u ∈ cs', u.oneCell' = true
  | zs, _, _, pv, cs, .nil _, hr, h1, _, _, hi, _ => by
    simp at hi
    subst hi
    exact ⟨cs, rfl, hr, h1⟩
  | zs, zs', _, pv, cs, .cons (i := i) (z := z) (d := d) (ps := ps) hz hs hp hF, hr, h1, hpl, hpl', hi, hv => by
    cases pv with
    | nil => simp at hi
    | cons x pv =>
      obtain ⟨j, v⟩ := x
      simp only [List.map_cons, List.cons.injEq] at hi
      obtain ⟨rfl, hi⟩ := hi
      simp only [List.map_cons, Repl] at hv
      obtain ⟨v', rest, he, hv1, hv2⟩ := hv
      injection he with he1 he2
      subst he1 he2
      have hvs := Rep.sz hv1
      have hlen := hr.len
      have hle : szs (zs.take j) + sz d ≤ cs.length := by
        rw [hlen, hs]
        have hj := List.getElem?_eq_some_iff.1 hz
        have e1 : zs = zs.take j ++ z :: zs.drop (j + 1) := by
          rw [← hj.2]; simp
        have gen : ∀ (a b : List D), szs (a ++ b) = szs a + szs b := by
          intro a
          induction a with
          | nil => simp [szs]
          | cons x a ih => intro b; simp [szs, ih, Nat.add_assoc]
        rw [e1]
        simp only [gen, szs]
        have : (zs.take j ++ z :: zs.drop (j + 1)).take j = zs.take j := by rw [← e1]
        rw [this]
        omega
      rw [fill_one place cs.toArray j (szs (zs.take j)) v pv (by rw [hvs, hs]; exact hpl j z hz) (by rw [hvs]; simpa using hle)]
      have hset := Reps.set hr hz hs hv1
      simp only [hvs]
      have hone : ∀ u ∈ cs.take (szs (zs.take j)) ++ v.cells.toList ++ cs.drop (szs (zs.take j) + sz d), u.oneCell' = true := fun u hu => by
        rcases List.mem_append.1 hu with hu | hu
        · rcases List.mem_append.1 hu with hu | hu
          · exact h1 u (List.mem_of_mem_take hu)
          · exact Rep.one hv1 hp u hu
        · exact h1 u (List.mem_of_mem_drop hu)
      refine fill_rep place hF hset hone (fun i' z' hz' => ?_) (fun i' off n hh => ?_) hi hv2
      · have hl := lay_at (zs.set j d) 0 i' z' hz'
        rw [lay_set zs 0 j z d hz hs] at hl
        have hi' := (List.getElem?_eq_some_iff.1 hz').1
        rw [List.length_set] at hi'
        have hz'' := List.getElem?_eq_getElem hi'
        have hl2 := lay_at zs 0 i' _ hz''
        rw [hl] at hl2
        injection hl2 with hl2
        rw [hpl i' _ hz'']
        simp only [Nat.zero_add] at hl2
        rw [hl2]
      · rw [lay_set zs 0 j z d hz hs]
        exact hpl' i' off n hh
theorem parts_rep {p : Addr → Prop} {w : World} {a : Act} : ∀ {ps : List (Nat × Operand)} {pd : List (Nat × D)}, Pts ρ ps pd → (∀ x ∈ ps.map (·.2), ∀ d, ρ x = some d → Rep p w d (a.eval x)) →
    (ps.map fun x => (x.1, a.eval x.2)).map (·.1) = pd.map (·.1) ∧ Repl p w (pd.map (·.2)) ((ps.map fun x => (x.1, a.eval x.2)).map (·.2))
  | _, _, .nil, _ => ⟨rfl, Repl.nil _ _⟩
  | _, _, .cons hx hw h, hr => by
    obtain ⟨h1, h2⟩ := parts_rep h fun x hm => hr x (by simp only [List.map_cons]; exact List.mem_cons_of_mem _ hm)
    refine ⟨by simp only [List.map_cons, h1], ?_⟩
    simp only [List.map_cons]
    exact Repl.cons (hw _ _ _ (hr _ (by simp) _ hx)) h2
theorem s_build {t : TypeId} {parts : Array (Nat × Operand)} {zs zs' : List D} {pd : List (Nat × D)} (ho : o.op = .build t parts) (hB : BuildT P t zs) (hp : Pts ρ parts.toList pd) (hF : Fill zs pd zs') : StepD P o ρ (.agg zs') := stepD_of fun p a w h => by
  obtain ⟨hz, it, fields, h1, h2, h3, h4⟩ := hB
  obtain ⟨g1, g2⟩ := zcs_rep p w zs hz
  obtain ⟨q1, q2⟩ := parts_rep (p := p) (w := w) (a := a) hp fun x hx => h x (by rw [ho]; simpa [Op.operands] using hx)
  have hplace : ∀ i z, zs[i]? = some z → (lay 0 zs).toArray[i]? = some (szs (zs.take i), sz z) := fun i z hz => by
    have := lay_at zs 0 i z hz
    simpa using this
  obtain ⟨cs', r1, r2, r3⟩ := fill_rep (p := p) (w := w) (fun i => (lay 0 zs).toArray[i]?) hF g1 g2 hplace (fun i off n hh => by simpa using hh) q1 q2
  refine ⟨.agg cs'.toArray, ?_, by simp only [Rep]; exact ⟨cs', rfl, r2, r3⟩⟩
  unfold execOp
  rw [ho]
  have hb : P.built t (parts.map fun (i, x) => (i, a.eval x)).toList = some cs'.toArray := by
    unfold Program.built
    simp only [h1, h3, h2, h4, Value.cells]
    rw [← r1]
    congr 1
    simp
  simp [run_build w t _ _ hb]
end
end Go.Proofs.Ytlannippingfdaa


namespace Go.Proofs.Ytlannippingfdaa
set_option maxRecDepth 100000
open Go.RowKit

section
variable {P : Program} {o : Oper} {ρ : Operand → Option D} {d : D}

/-- A new block that is never written again. -/
theorem Inv.fresh {K : Ctx} {p : Addr → Prop} {σ : St} {w : World} (h : Inv K p σ w) (cs : Array Value) (ty : TypeId) :
    ∃ p', Inv K p' σ (w.alloc (.cells cs ty)) ∧ Grow p w p' (w.alloc (.cells cs ty)) ∧ RdP p' (w.alloc (.cells cs ty)) (some ⟨w.heap.size, 0, none⟩) cs.toList := by
  have h1 := h.alloc (.cells cs ty)
  have hc : ∀ j u, cs.toList[j]? = some u → (w.alloc (.cells cs ty)).cell? ⟨w.heap.size, 0 + j, none⟩ = some u := fun j u hu => by
    rw [Nat.zero_add, cell_of_row _ _ _ _ _ _ (heap_alloc_new w _)]
    simpa using hu
  refine ⟨_, h1.give (fun a => a.block = w.heap.size ∧ a.spot = none ∧ a.off < cs.size) (fun a ⟨e1, e2, e3⟩ => ?_), (grow_alloc h.pub _).tr (grow_give p _ _), .inr ⟨_, 0, rfl, fun j u hu => ⟨.inr ⟨rfl, rfl, ?_⟩, hc j u hu⟩⟩⟩
  · obtain ⟨b, of, sp⟩ := a
    simp only at e1 e2 e3
    subst e1 e2
    refine ⟨⟨cs[of], ?_⟩, .inl h.size, fun o' ho b hb hab => ?_⟩
    · have := hc of cs[of] (by simp)
      simp
    · have := (h.ok o' ho).lt hb
      simp only at hab
      omega
  · have := (List.getElem?_eq_some_iff.1 hu).1
    simp at this ⊢
    exact this

theorem stepD_new (h : ∀ (p : Addr → Prop) (a : Act) (w : World), (∀ x ∈ o.op.operands, ∀ d, ρ x = some d → Rep p w d (a.eval x)) → ∃ v cs ty, (execOp a.eval o).run P w = .ok (.value v) (w.alloc (.cells cs ty)) ∧ ∀ p' w', Grow p w p' w' → RdP p' w' (some ⟨w.heap.size, 0, none⟩) cs.toList → Rep p' w' d v) : StepD P o ρ d := fun σ K p a w hi hx => by
  obtain ⟨v, cs, ty, h1, h2⟩ := h p a w hx
  obtain ⟨p', g1, g2, g3⟩ := hi.fresh cs ty
  unfold Oper.wp
  rw [h1]
  exact ⟨v, d, σ, p', rfl, ⟨rfl, rfl⟩, h2 _ _ g2 g3, g1, g2⟩

theorem s_box {e : TypeId} {x : Operand} (ho : o.op = .box e x) (hx : ρ x = some d) (hp : d.plain = true) : StepD P o ρ (.ptr d) := stepD_new fun p a w h => by
  have hv := h x (by rw [ho]; simp [Op.operands]) d hx
  refine ⟨.pointer (some ⟨w.heap.size, 0, none⟩), (a.eval x).cells, e, ?_, fun p' w' g hr => ?_⟩
  · unfold execOp
    rw [ho]
    simp [Instr.box, newVar, newRow]
  · simp only [Rep]
    exact ⟨_, 0, a.eval x, rfl, hr, hv.grow g, Rep.one hv hp⟩

inductive Opds (ρ : Operand → Option D) : List Operand → List D → Prop
  | nil : Opds ρ [] []
  | cons {x : Operand} {e d : D} {xs : List Operand} {ds : List D} (hx : ρ x = some e) (hw : Wk e d) (h : Opds ρ xs ds) : Opds ρ (x :: xs) (d :: ds)
  | consN {xs : List Operand} {ds : List D} (h : Opds ρ xs ds) : Opds ρ (.const (.slice none 0 0) :: xs) (.own (.slice none 0 0) [] :: ds)
theorem Opds.rep {p : Addr → Prop} {w : World} {a : Act} : ∀ {xs : List Operand} {ds : List D}, Opds ρ xs ds → (∀ x ∈ xs, ∀ d, ρ x = some d → Rep p w d (a.eval x)) → Repl p w ds (xs.map a.eval)
  | _, _, .nil, _ => Repl.nil _ _
  | _, _, .cons hx hw h, hr => by
    simp only [List.map_cons]
    exact Repl.cons (hw _ _ _ (hr _ (List.mem_cons_self ..) _ hx)) (h.rep fun x hm => hr x (List.mem_cons_of_mem _ hm))
  | _, _, .consN h, hr => by
    simp only [List.map_cons]
    refine Repl.cons ?_ (h.rep fun x hm => hr x (List.mem_cons_of_mem _ hm))
    simp only [Rep]
    exact ⟨rfl, none, 0, [], rfl, by simp, by omega, .inl rfl, Reps.nil _ _, by simp⟩
theorem Repl.reps {p : Addr → Prop} {w : World} : ∀ {ds : List D} {vs : List Value}, Repl p w ds vs → Reps p w ds (vs.flatMap fun v => v.cells.toList)
  | [], _, h => by simp only [Repl] at h; subst h; exact Reps.nil _ _
  | d :: ds, _, h => by
    simp only [Repl] at h
    obtain ⟨v, rest, rfl, h1, h2⟩ := h
    simp only [List.flatMap_cons]
    exact Reps.cons h1 (Repl.reps h2)
theorem Repl.ones {p : Addr → Prop} {w : World} : ∀ {ds : List D} {vs : List Value}, Repl p w ds vs → (∀ d ∈ ds, d.plain = true) → ∀ u ∈ vs.flatMap (fun v => v.cells.toList), u.oneCell' = true
  | [], _, h, _ => by simp only [Repl] at h; subst h; simp
  | d :: ds, _, h, hp => by
    simp only [Repl] at h
    obtain ⟨v, rest, rfl, h1, h2⟩ := h
    intro u hu
    simp only [List.flatMap_cons] at hu
    rcases List.mem_append.1 hu with hu | hu
    · exact Rep.one h1 (hp d (List.mem_cons_self ..)) u hu
    · exact Repl.ones h2 (fun e he => hp e (List.mem_cons_of_mem _ he)) u hu
theorem Repl.len {p : Addr → Prop} {w : World} : ∀ {ds : List D} {vs : List Value}, Repl p w ds vs → vs.length = ds.length
  | [], _, h => by simp only [Repl] at h; subst h; rfl
  | d :: ds, _, h => by
    simp only [Repl] at h
    obtain ⟨v, rest, rfl, h1, h2⟩ := h
    simp [Repl.len h2]
theorem Repl.szs {p : Addr → Prop} {w : World} {s : Nat} : ∀ {ds : List D} {vs : List Value}, Repl p w ds vs → AllSz s ds → ∀ v ∈ vs, v.cells.size = s
  | [], _, h, _ => by simp only [Repl] at h; subst h; simp
  | d :: ds, _, h, hs => by
    simp only [Repl] at h
    obtain ⟨v, rest, rfl, h1, h2⟩ := h
    intro u hu
    rcases List.mem_cons.1 hu with rfl | hu
    · rw [Rep.sz h1]; exact hs d (List.mem_cons_self ..)
    · exact Repl.szs h2 (fun e he => hs e (List.mem_cons_of_mem _ he)) u hu

theorem fill_seq (s : Nat) : ∀ (vs : List Value) (k : Nat) (pre junk : List Value), (∀ v ∈ vs, v.cells.size = s) → pre.length = k * s → junk.length = vs.length * s →
    Instr.fill (fun i => some (i * s, s)) (pre ++ junk).toArray ((vs.zipIdx k).map fun x => (x.2, x.1)) = some (pre ++ vs.flatMap (fun v => v.cells.toList)).toArray
  | [], k, pre, junk, _, _, hj => by
    have : junk = [] := List.eq_nil_of_length_eq_zero (by simpa using hj)
    subst this
    simp [Instr.fill]
  | v :: vs, k, pre, junk, hs, hp, hj => by
    have hv := hs v (List.mem_cons_self ..)
    simp only [List.length_cons, Nat.add_mul, Nat.one_mul] at hj
    simp only [List.zipIdx_cons, List.map_cons, List.flatMap_cons]
    rw [fill_one _ _ k (k * s) v _ (by rw [hv]) (by simp; omega)]
    have e1 : (pre ++ junk).toArray.toList.take (k * s) = pre := by simp [← hp]
    have e2 : (pre ++ junk).toArray.toList.drop (k * s + v.cells.size) = junk.drop s := by
      rw [hv, ← hp]
      simp [List.drop_length_add_append]
    rw [e1, e2]
    have := fill_seq s vs (k + 1) (pre ++ v.cells.toList) (junk.drop s) (fun u hu => hs u (List.mem_cons_of_mem _ hu)) (by simp [hp, hv, Nat.add_mul]) (by simp; omega)
    rw [this, List.append_assoc]
/-- A slice that is written out. -/
theorem s_lit {t e : TypeId} {n s : Nat} {parts : Array (Nat × Operand)} {xs : List Operand} {ds : List D} {z : Value} (ho : o.op = .buildSlice t n parts) (hu : P.underlying t = some (.slice e)) (hz : (P.info? e).map (fun i => (i.zero, i.size)) = some (some z, s)) (hs0 : 0 < s) (hps : parts.toList = (xs.zipIdx 0).map fun x => (x.2, x.1)) (hn : n = xs.length) (hn0 : 0 < n) (hsm : n * s ≤ 16777216) (hO : Opds ρ xs ds) (hsz : AllSz s ds) (hpl : ∀ d ∈ ds, d.plain = true) : StepD P o ρ (.full ds) := stepD_new fun p a w h => by
  have hmem : ∀ x ∈ xs, x ∈ o.op.operands := fun x hx => by
    rw [ho]
    simp only [Op.operands, List.mem_toArray, hps, List.map_map, List.mem_map, Function.comp]
    obtain ⟨i, hi⟩ := List.mem_iff_getElem?.1 hx
    exact ⟨(x, i), by rw [List.mem_zipIdx_iff_getElem?]; simpa using hi, rfl⟩
  have hr := hO.rep (p := p) (w := w) (a := a) fun x hx => h x (hmem x hx)
  have hl := hr.len
  have hlx : ds.length = n := by rw [← hl, List.length_map, hn]
  obtain ⟨i, hi, hzz⟩ := Option.map_eq_some_iff.1 hz
  simp only [Prod.mk.injEq] at hzz
  refine ⟨.slice (some ⟨w.heap.size, 0, none⟩) n n, ((xs.map a.eval).flatMap fun v => v.cells.toList).toArray, e, ?_, fun p' w' g hrd => ?_⟩
  · unfold execOp
    rw [ho]
    have hpos : ¬ n * i.size = 0 := by
      rw [hzz.2]
      have := Nat.mul_pos hn0 hs0
      omega
    have hf : Instr.fill (fun j => some (j * i.size, i.size)) ((Array.range (n * i.size)).map (z.cells[· % z.cells.size]!)) ((parts.map fun (j, x) => (j, a.eval x)).toList) = some ((xs.map a.eval).flatMap fun v => v.cells.toList).toArray := by
      have e1 : (parts.map fun (j, x) => (j, a.eval x)).toList = ((xs.map a.eval).zipIdx 0).map fun x => (x.2, x.1) := by
        rw [Array.toList_map, hps, List.zipIdx_map, List.map_map, List.map_map]
        rfl
      rw [e1, hzz.2]
      have := fill_seq s (xs.map a.eval) 0 [] ((Array.range (n * s)).map (z.cells[· % z.cells.size]!)).toList (hr.szs hsz) (by simp) (by simp [hn])
      have e3 : ((Array.range (n * s)).map (z.cells[· % z.cells.size]!)).toList.toArray = (Array.range (n * s)).map (z.cells[· % z.cells.size]!) := by rw [Array.toArray_toList]
      rw [List.nil_append, List.nil_append, e3] at this
      exact this
    simp [run_buildSlice w t e n _ _ i z hu hi hzz.1 (by rw [hzz.2]; omega) hpos hf]
  · simp only [Rep]
    refine ⟨some ⟨w.heap.size, 0, none⟩, _, by rw [hlx], ?_, hrd, ?_, ?_⟩
    · rw [hlx]
      have : n * 1 ≤ n * s := Nat.mul_le_mul_left n hs0
      omega
    · simpa using (hr.reps).grow g
    · simpa using hr.ones hpl
theorem s_lit0 {t e : TypeId} {parts : Array (Nat × Operand)} {s : Nat} (ho : o.op = .buildSlice t 0 parts) (hu : P.underlying t = some (.slice e)) (hz : (P.info? e).map (·.size) = some s) (hps : parts.toList = []) : StepD P o ρ (.full []) := stepD_new fun p a w h => by
  obtain ⟨i, hi, hzz⟩ := Option.map_eq_some_iff.1 hz
  refine ⟨.slice (some ⟨w.heap.size, 0, none⟩) 0 0, #[], e, ?_, fun p' w' g hrd => ?_⟩
  · unfold execOp
    rw [ho]
    have : parts = #[] := Array.toList_inj.1 (by simpa using hps)
    subst this
    have e0 : Array.range 0 = #[] := rfl
    simp [Instr.buildSlice, run_underlying hu, sizeOf, typeInfo, hi, Instr.fill, newRow, e0]
  · simp only [Rep]
    exact ⟨_, [], rfl, by simp, .inl rfl, Reps.nil _ _, by simp⟩

/-! ### parts of lists -/
theorem sub_rep {p : Addr → Prop} {w : World} {A : Option Addr} {c s lo hi : Nat} {l : List D} {xs : List Value} (h4 : RdP p w A xs) (h5 : Reps p w l xs) (h6 : ∀ u ∈ xs, u.oneCell' = true) (hall : AllSz s l) (hlo : lo ≤ hi) (hhi : hi ≤ l.length) (hc : l.length ≤ c) :
    ∃ ys, RdP p w (if c = lo then A else A.map (·.add (lo * s))) ys ∧ Reps p w ((l.take hi).drop lo) ys ∧ ∀ u ∈ ys, u.oneCell' = true := by
  by_cases he : c = lo
  · refine ⟨[], .inl rfl, ?_, by simp⟩
    have : (l.take hi).drop lo = [] := List.drop_eq_nil_of_le (by simp; omega)
    rw [this]
    exact Reps.nil _ _
  · rw [if_neg he]
    have h7 := (h5.take hi).drop lo
    have e1 : szs (l.take hi) = hi * s := by rw [(hall.take hi).szs, List.length_take, Nat.min_eq_left hhi]
    have e2 : szs ((l.take hi).take lo) = lo * s := by rw [((hall.take hi).take lo).szs, List.length_take, List.length_take, Nat.min_eq_left hhi, Nat.min_eq_left hlo]
    rw [e1, e2] at h7
    refine ⟨_, ?_, h7, fun u hu => h6 u (List.mem_of_mem_take (List.mem_of_mem_drop hu))⟩
    rcases h4 with h4 | ⟨b, o', rfl, hcell⟩
    · subst h4; exact .inl (by simp)
    · refine .inr ⟨b, o' + lo * s, by simp [addF], fun j u hu => ?_⟩
      rw [List.getElem?_drop, List.getElem?_take] at hu
      split at hu
      · have := hcell _ u hu
        rw [← Nat.add_assoc] at this
        exact this
      · cases hu
/-- The bounds that are written, or not. -/
def bndLo (ρ : Operand → Option D) : Option Operand → Nat → Prop
  | none, n => n = 0
  | some x, n => ∃ k m, ρ x = some (.int k m) ∧ m = (n : Int)
def bndHi (ρ : Operand → Option D) (len : Nat) : Option Operand → Nat → Prop
  | none, n => n = len
  | some x, n => ∃ k m, ρ x = some (.int k m) ∧ m = (n : Int)
theorem s_sub {t e : TypeId} {x : Operand} {low high : Option Operand} {s lo hi : Nat} {dx : D} {l : List D} (ho : o.op = .slice t x low high none) (hu : P.underlying t = some (.slice e)) (hs : (P.info? e).map (·.size) = some s) (hx : ρ x = some dx) (hl : AsL dx l) (h1 : bndLo ρ low lo) (h2 : bndHi ρ l.length high hi) (hlo : lo ≤ hi) (hhi : hi ≤ l.length) (hall : AllSz s l) : StepD P o ρ (.lst ((l.take hi).drop lo)) := stepD_of fun p a w h => by
  obtain ⟨A, c, xs, g1, g2, g3, g4, g5, g6⟩ := hl.rep (h x (by rw [ho]; simp [Op.operands]) _ hx)
  obtain ⟨ys, q1, q2, q3⟩ := sub_rep g4 g5 g6 hall hlo hhi g2
  obtain ⟨i, hi', hin⟩ := Option.map_eq_some_iff.1 hs
  have hlen : ((l.take hi).drop lo).length = hi - lo := by simp; omega
  refine ⟨.slice (if c = lo then A else A.map (·.add (lo * s))) (hi - lo) (c - lo), ?_, ?_⟩
  · unfold execOp
    rw [ho]
    have hiC : ((hi : Int) ≤ (c : Int)) := by omega
    have hloC : ((lo : Int) ≤ (hi : Int)) := by omega
    have hbl : ∀ v, low.map a.eval = v → (match v with | some v => Instr.sliceBound v hi .sliceB | none => pure 0 : Sem Nat).run P w = .ok lo w := by
      intro v hv
      cases low with
      | none => simp [bndLo] at h1; subst hv h1; simp
      | some y =>
        obtain ⟨k, m, h3, rfl⟩ := h1
        have := h y (by rw [ho]; simp [Op.operands]) _ h3
        simp only [Rep] at this
        subst hv
        simp [this.1, Instr.sliceBound, asIntOf, hlo]
    have hbh : ∀ v, high.map a.eval = v → (match v with | some v => Instr.sliceBound v c .sliceAcap | none => pure l.length : Sem Nat).run P w = .ok hi w := by
      intro v hv
      cases high with
      | none => simp [bndHi] at h2; subst hv h2; simp
      | some y =>
        obtain ⟨k, m, h3, rfl⟩ := h2
        have := h y (by rw [ho]; simp [Op.operands]) _ h3
        simp only [Rep] at this
        subst hv
        have : hi ≤ c := by omega
        simp [*, Instr.sliceBound, asIntOf]
    have hb : (Instr.sliceBounds true l.length c (low.map a.eval) (high.map a.eval) none).run P w = .ok (lo, hi, c) w := by
      have e1 := hbl _ rfl
      have e2 := hbh _ rfl
      unfold Instr.sliceBounds
      cases hL : low.map a.eval <;> cases hH : high.map a.eval <;> simp only [hL, hH] at e1 e2 ⊢ <;> simp_all
    simp [g1, Instr.sliceAt, Instr.slice, run_underlying hu, hb, sizeOf, typeInfo, hi', hin]
  · simp only [Rep]
    exact ⟨_, c - lo, ys, by rw [hlen], by rw [hlen]; omega, by omega, q1, q2, q3⟩

/-! ### calls -/
def callee (P : Program) (f : FuncId) : Prop := ∃ fn c, P.funcs[f]? = some fn ∧ fn.body = some c ∧ (fn.name == "runtime.NumGoroutine") = false
theorem run_callFunc {f : FuncId} (h : callee P f) (vs : Array Value) (w : World) : (callFunc f vs).run P w = .ok (.enter f vs) w := by
  obtain ⟨fn, c, h1, h2, h3⟩ := h
  simp only [callFunc, Sem.run_bind, run_program, Result.andThen_ok, h1]
  simp [h3, h2]
theorem left_step {K : Ctx} {p : Addr → Prop} {σ σ1 τ : St} {w : World} {a : Act} {dst : Option Tmp} {R : D → St → Prop} (hi : Inv K p σ w) (hσ : σ.Perm (σ1 ++ τ)) {e : Ending} {w' : World} (h : Left (ctx w p σ1) R e w') :
    ∃ v, e = .returned v ∧ ∃ v' d σ' p', a.put dst v = a.put dst v' ∧ (∃ σ1', R d σ1' ∧ σ' = σ1' ++ τ) ∧ Rep p' w' d v' ∧ Inv K p' σ' w' ∧ Grow p w p' w' := by
  obtain ⟨v, d, σ1', p', rfl, hR, hv, hi'⟩ := h.resolve_right fun ⟨_, _, _, _, _, h, _⟩ => h
  exact ⟨v, rfl, v, d, _, p', rfl, ⟨σ1', hR, rfl⟩, hv, (hi.perm hσ).leave hi', hi'.gr⟩
theorem step_call {f : FuncId} {vs : List Value} {σ σ1 τ : St} {ds : List D} {R : D → St → Prop} {K : Ctx} {p : Addr → Prop} {a : Act} {w : World} (hi : Inv K p σ w) (hσ : σ.Perm (σ1 ++ τ)) (hS : Spec P f ds σ1 R) (hv : Repl p w ds vs) (hrun : (execOp a.eval o).run P w = .ok (.enter f vs.toArray) w) :
    o.wp P a w (fun a' w' => ∃ v d σ' p', a' = a.put o.dst v ∧ (∃ σ1', R d σ1' ∧ σ' = σ1' ++ τ) ∧ Rep p' w' d v ∧ Inv K p' σ' w' ∧ Grow p w p' w') (fun _ _ _ => False) := by
  unfold Oper.wp
  rw [hrun]
  refine (hS w p vs ((hi.perm hσ).enter) hv).mono fun e w' hl => ?_
  obtain ⟨v, rfl, v', d, σ', p', h1, h2, h3, h4, h5⟩ := left_step (a := a) (dst := o.dst) hi hσ hl
  exact ⟨v', d, σ', p', h1, h2, h3, h4, h5⟩
theorem s_call {f : FuncId} {args : Array Operand} {ats : Array TypeId} {σ σ1 : St} (τ : St) {ds : List D} {R : D → St → Prop} (ho : o.op = .call { callee := .value (.func f), args := args, argTypes := ats }) (hf : callee P f) (hO : Opds ρ args.toList ds) (hσ : σ.Perm (σ1 ++ τ)) (hS : Spec P f ds σ1 R) : StepS P o ρ σ fun d σ' => ∃ σ1', R d σ1' ∧ σ' = σ1' ++ τ := fun K p a w hi h => by
  have hv := hO.rep (p := p) (w := w) (a := a) fun x hx => h x (by rw [ho]; simp only [Op.operands, Call.operands]; exact Array.mem_append.2 (.inr (by simpa using hx)))
  refine step_call hi hσ hS hv ?_
  unfold execOp
  rw [ho]
  simp only [resolve, Act.eval, Deferred.ofValue, Sem.run_bind, Sem.run_pure, Result.andThen_ok, invoke]
  rw [run_callFunc hf]
  congr 2
  apply Array.toList_inj.1
  simp
theorem s_callD {f : FuncId} {args : Array Operand} {ats : Array TypeId} {ds : List D} (ho : o.op = .call { callee := .value (.func f), args := args, argTypes := ats }) (hf : callee P f) (hO : Opds ρ args.toList ds) (hS : Gives P f ds d) : StepD P o ρ d := fun σ K p a w hi h => by
  have := s_call (P := P) (σ := σ) (σ1 := []) σ ho hf hO (List.Perm.refl _) hS K p a w hi h
  refine Oper.wp_mono (fun a' w' hh => ?_) this
  obtain ⟨v, d', σ', p', h1, ⟨σ1', rfl, rfl⟩, h3, h4, h5⟩ := hh
  exact ⟨v, _, _, p', h1, ⟨rfl, rfl⟩, h3, (h4.perm List.perm_append_comm).less, h5⟩
/-- A function value is called. -/
theorem s_callV {f : FuncId} {x : Operand} {args : Array Operand} {ats : Array TypeId} {σ σ1 : St} (τ : St) {ds fs cs all : List D} {R : D → St → Prop} (ho : o.op = .call { callee := .value x, args := args, argTypes := ats }) (hx : ρ x = some (.clo (.func f) fs cs)) (hf : callee P f) (hO : Opds ρ args.toList ds) (hall : fs ++ ds ++ cs = all) (hσ : σ.Perm (σ1 ++ τ)) (hS : Spec P f all σ1 R) : StepS P o ρ σ fun d σ' => ∃ σ1', R d σ1' ∧ σ' = σ1' ++ τ := fun K p a w hi h => by
  have hv := hO.rep (p := p) (w := w) (a := a) fun y hy => h y (by rw [ho]; simp only [Op.operands, Call.operands]; exact Array.mem_append.2 (.inr (by simpa using hy)))
  have h1 := h x (by rw [ho]; simp [Op.operands, Call.operands]) _ hx
  simp only [Rep] at h1
  obtain ⟨fv, cv, h1, h2, h3⟩ := h1
  have hv' : Repl p w all (fv ++ args.toList.map a.eval ++ cv) := by rw [← hall]; exact (h2.app hv).app h3
  refine step_call hi hσ hS hv' ?_
  unfold execOp
  rw [ho]
  simp only [resolve, h1, Deferred.ofValue, Sem.run_bind, Sem.run_pure, Result.andThen_ok, invoke]
  rw [run_callFunc hf]
  congr 2
  apply Array.toList_inj.1
  simp
theorem s_callVD {f : FuncId} {x : Operand} {args : Array Operand} {ats : Array TypeId} {ds fs cs all : List D} (ho : o.op = .call { callee := .value x, args := args, argTypes := ats }) (hx : ρ x = some (.clo (.func f) fs cs)) (hf : callee P f) (hO : Opds ρ args.toList ds) (hall : fs ++ ds ++ cs = all) (hS : Gives P f all d) : StepD P o ρ d := fun σ K p a w hi h => by
  have := s_callV (P := P) (σ := σ) (σ1 := []) σ ho hx hf hO hall (List.Perm.refl _) hS K p a w hi h
  refine Oper.wp_mono (fun a' w' hh => ?_) this
  obtain ⟨v, d', σ', p', h1, ⟨σ1', rfl, rfl⟩, h3, h4, h5⟩ := hh
  exact ⟨v, _, _, p', h1, ⟨rfl, rfl⟩, h3, (h4.perm List.perm_append_comm).less, h5⟩
end
end Go.Proofs.Ytlannippingfdaa

