/-
  Texts of the seat, merged.
-/
import Derived.Test.YtdoljfkjdfaakaaGreatLSA
import Derived.Test.YtdoljfkjdfaakaaGreatLSB
import Derived.Test.YtdoljfkjdfaakaaGreatLSC
import Derived.Test.YtdoljfkjdfaakaaGreatLSD
import Derived.Test.YtdoljfkjdfaakaaGreatLSE
import Derived.Test.YtdoljfkjdfaakaaGreatLSF
import Derived.Test.YtdoljfkjdfaakaaGreatLSG
import Derived.Test.YtdoljfkjdfaakaaGreatLSH
import Derived.Test.YtdoljfkjdfaakaaGreatLSI
import Derived.Test.YtdoljfkjdfaakaaGreatLSJ
import Derived.Test.YtdoljfkjdfaakaaGreatChecked
import Derived.WalkKit
import Derived.Lib.Hide
import Derived.Lib.AppendStr
import Derived.Deep.AppendLies
import Derived.Deep.AppendSrc
import Derived.Deep.Draws
import Derived.Deep.QuietTactic
import Derived.BigQuiet
import Derived.Deep.RegionWith
import Derived.Maps.AppendAt
import Derived.WalkSpells
import Derived.Orders
import Derived.Deep.Slices
import Derived.Deep.Fields
import Derived.ChangeArms
import Derived.Lib.OthersKept
import Derived.Lib.TrimU
import Derived.Lib.IndexAny
import Derived.Deep.LoopGhost
import Derived.Lib.Bytealg
import Derived.RangeFuncBox
import Derived.RangeFuncNested
import Derived.RangeFuncBound
import Derived.RangeFuncCalls
import Derived.RangeFuncLeaves
import Derived.Shelf.Abstract
import Derived.OwnWalkIn
import Derived.TacticsInMore
import Derived.LoopNIn
import Derived.LoopIn
import Derived.RangeFuncWrites
import Derived.Maps.OwnIn
import Derived.Maps.Views
import Derived.Laws.OwnMore
import Derived.Maps.OwnSet
import Derived.Laws.IdiomStrings
import Derived.Test.YtdoljfkjdfaakaaGreatRows
import Derived.ProofKit
import Derived.OpenShut
import Derived.Carry
import Derived.OrdersIn
import Derived.Great.BuildSlice
import Derived.ArgAppend
import Derived.Laws.MakeOwn
import Derived.Laws.Cover3
import Derived.Laws.CopyRow
import Derived.MapKept
import Derived.Maps.RangeRun
import Derived.DeepKeys5
import Derived.WideKeyRuns
import Derived.RangeFuncOwn
import Derived.Defers
import Derived.Recover
import Derived.Tactics
import Derived.Tactics2
import Derived.KernelRfl
import Derived.ChangeSlices
import Derived.JoinedCond
set_option linter.unusedVariables false
set_option linter.unusedSimpArgs false
set_option linter.unnecessarySimpa false
set_option linter.all false
namespace Go.Proofs.YtdoljfkjdfaakaaGreat
set_option maxRecDepth 100000
open Go.RowKit
/-! ### writers -/
def catO (r s : Option (List Int)) : Option (List Int) := r.bind fun a => s.bind fun b => some (a ++ b)
theorem quj (r : Option (List Int)) : catO r (some []) = r := by cases r <;> simp [catO]
theorem qpG {r s : Option (List Int)} {e : List Int} (h : catO r s = some e) : ∃ a b, r = some a ∧ s = some b ∧ e = a ++ b := by
  cases r <;> cases s <;> simp [catO] at h
  exact ⟨_, _, rfl, rfl, h.symm⟩
def OkW (r : Option (List Int)) (b b' : List Int) (bad' : Bool) : Prop := match r with
  | none => bad' = true
  | some e => bad' = false ∧ b' = b ++ e
def Wr {W : Type} (mk : List Int → Bool → W) (f : W → Option W) (N : Nat) (r : Option (List Int)) : Prop :=
  ∀ b bad, b.length + N ≤ 1000000000 → ∃ b' bad', f (mk b bad) = some (mk b' bad') ∧ b'.length ≤ b.length + N ∧ (bad = true → bad' = true) ∧ (bad = false → OkW r b b' bad')
section
variable {W α β : Type} {mk : List Int → Bool → W} {f g : W → Option W} {N M : Nat} {r s : Option (List Int)}
theorem Wr.pure : Wr mk some 0 (some []) := fun b bad _ => ⟨b, bad, rfl, by omega, id, fun h => ⟨h, by simp⟩⟩
theorem Wr.bind (hf : Wr mk f N r) (hg : Wr mk g M s) : Wr mk (fun c => (f c).bind g) (N + M) (catO r s) := fun b bad hb => by
  obtain ⟨b1, bad1, e1, l1, m1, o1⟩ := hf b bad (by omega)
  obtain ⟨b2, bad2, e2, l2, m2, o2⟩ := hg b1 bad1 (by omega)
  refine ⟨b2, bad2, by simp only [e1]; exact e2, by omega, fun h => m2 (m1 h), fun h => ?_⟩
  have o1 := o1 h
  cases r with
  | none => exact m2 o1
  | some x =>
    obtain ⟨rfl, rfl⟩ := o1
    have o2 := o2 rfl
    cases s with
    | none => exact o2
    | some y => exact ⟨o2.1, by rw [o2.2, List.append_assoc]⟩
theorem Wr.le (h : Wr mk f N r) (hn : N ≤ M) : Wr mk f M r := fun b bad hb => by
  obtain ⟨b1, bad1, e1, l1, m1, o1⟩ := h b bad (by omega)
  exact ⟨b1, bad1, e1, by omega, m1, o1⟩
theorem Wr.eq (h : Wr mk f N r) (he : r = s) : Wr mk f N s := he ▸ h
theorem Wr.last (h : Wr mk f N r) : Wr mk (fun c => (f c).bind fun x => some x) N r := (Wr.bind h Wr.pure).eq (quj r)
def runW (put : α → W → Option W) : List α → W → Option W
  | [], c => some c
  | x :: l, c => (put x c).bind (runW put l)
def eCat (e : α → Option (List Int)) : List α → Option (List Int)
  | [] => some []
  | x :: l => catO (e x) (eCat e l)
theorem qm2 {put : α → W → Option W} {e : α → Option (List Int)} {n : Nat} : ∀ (l : List α), (∀ x ∈ l, Wr mk (put x) n (e x)) → Wr mk (runW put l) (l.length * n) (eCat e l)
  | [], _ => (Wr.pure : Wr mk some 0 (some [])).le (Nat.zero_le _)
  | x :: l, h => ((h x (by simp)).bind (qm2 l fun y hy => h y (by simp [hy]))).le (by simp only [List.length_cons, Nat.add_mul]; omega)
def eNum (lo hi n : Int) : Option (List Int) := if lo ≤ n ∧ n ≤ hi then some (encN n) else none
def eText (s : ByteArray) : Option (List Int) := if s.size ≤ 40 then some (encN s.size ++ toY s.data.toList) else none
def eBool (x : Bool) : Option (List Int) := some [bif x then 1 else 0]
def eList (most : Int) (e : α → Option (List Int)) (l : List α) : Option (List Int) := catO (eNum 0 most (l.length : Int)) (eCat e l)
def eNums (most hi : Int) : List Int → Option (List Int) := eList most (eNum 0 hi)
mutual
def bT : T → List Int
  | .mk k i s ar => encN k ++ (if k = 2 then (encN s.size ++ toY s.data.toList) ++ (encN ar.length ++ bL ar) else encN i)
def bL : List T → List Int
  | [] => []
  | t :: l => bT t ++ bL l
end
noncomputable def eT (t : T) : Option (List Int) := if rightT t = true then some (bT t) else none
def bArgs (n : ByteArray) (ts : List T) : List Int := (encN n.size ++ toY n.data.toList) ++ (encN ts.length ++ bL ts)
noncomputable def eAtom (a : At) : Option (List Int) := if rightA a = true then some (bArgs a.n a.ts) else none
noncomputable def eGoal (g : Gl) : Option (List Int) := if rightG g = true then some (encN g.op ++ bArgs g.n g.ts) else none
noncomputable def eFrame (f : qas) : Option (List Int) := catO (eNum 0 2147483648 f.f1_ID) (catO (eNum (-1) 2147483648 f.f2_Occ) (if f.f1_ID = 0 then eGoal f.f0_Goal else if f.f0_Goal.op = 0 ∧ f.f0_Goal.n.toList = [] ∧ f.f0_Goal.ts = [] then some [] else none))
noncomputable def eItem (x : Int × At) : Option (List Int) := catO (eNum 0 2147483648 x.1) (eAtom x.2)
noncomputable def eBind (x : Int × T) : Option (List Int) := catO (eNum 0 1048576 x.1) (eT x.2)
def eFire (x : qZ) : Option (List Int) := catO (eNum 0 40 x.f0_Rule) (eNums 4 2147483648 x.f1_IDs)
noncomputable def eConfig (c : qar) : Option (List Int) := catO (eNum 2 2 2) (catO (eList 1000 eFrame c.f0_Stack) (catO (eList 500 eItem c.f1_Store) (catO (eList 1048576 eBind c.f2_Binds) (catO (eList 5000 eFire c.f3_Fired) (catO (eNum 0 2147483648 c.f4_Next) (catO (eNum 0 1048576 c.f5_Fresh) (eBool c.f6_Failed)))))))
noncomputable def eFact (x : qX) : Option (List Int) := catO (eNum 0 2147483648 x.f0_ID) (catO (eAtom x.f1_Atom) (eNums 64 64 x.f2_Just))
def eApplied (x : qat) : Option (List Int) := catO (eNum 0 40 x.f0_Rule) (catO (eNums 4 2147483648 x.f1_Heads) (catO (eNums 4 2147483648 x.f2_Gone) (catO (eNums 12 2147483648 x.f3_Made) (catO (eBool x.f4_Failed) (eNums 64 64 x.f5_Just)))))
noncomputable def eMemory (m : qab) : Option (List Int) := catO (eNum 3 3 3) (catO (eList 5000 eFact m.f0_Facts) (catO (eList 5000 eFact m.f1_Past) (catO (eList 5000 eApplied m.f2_Log) (catO (eNum 0 2147483648 m.f3_Next) (eNum 0 64 m.f4_Given)))))
theorem qrk (n : Int) : (encN n).length ≤ 10 := by
  unfold encN
  rw [qoY, List.length_take]
  omega
theorem qtX (s : ByteArray) : (encN s.size ++ toY s.data.toList).length ≤ 10 + s.size := by
  have := qrk s.size
  rw [List.length_append, qoY]
  have : s.data.toList.length = s.size := Array.length_toList
  omega
theorem qmf {num : W → Option W} {L : W → Option W} {bad : W → Bool} (hbad : ∀ b x, bad (mk b x) = x) {most : Int} {e : α → Option (List Int)} {l : List α} {n m : Nat} (hm : (l.length : Int) ≤ most → l.length ≤ m)
    (hn : Wr mk num 10 (eNum 0 most (l.length : Int))) (hl : Wr mk L (l.length * n) (eCat e l)) : Wr mk (fun c => (num c).bind fun r => bif bad r then some r else L r) (10 + m * n) (eList most e l) := fun b bd hb => by
  obtain ⟨b1, bad1, e1, l1, m1, o1⟩ := hn b bd (by omega)
  simp only [e1, Option.bind_some, hbad]
  cases bad1 with
  | true =>
    refine ⟨b1, true, rfl, by omega, fun _ => rfl, fun h => ?_⟩
    have o1 := o1 h
    unfold eList eNum at *
    split at o1
    · cases o1.1
    · rename_i h1
      rw [if_neg h1]
      rfl
  | false =>
    have hbd : bd = false := by
      cases bd
      · rfl
      · exact absurd (m1 rfl) (by simp)
    have o1 := o1 hbd
    have h1 : 0 ≤ (l.length : Int) ∧ (l.length : Int) ≤ most := by
      unfold eNum at o1
      split at o1
      · assumption
      · cases o1
    have h2 : l.length * n ≤ m * n := Nat.mul_le_mul_right _ (hm h1.2)
    obtain ⟨b2, bad2, e2, l2, m2, o2⟩ := hl b1 false (by omega)
    refine ⟨b2, bad2, e2, by omega, fun h => absurd (h.symm.trans hbd) (by simp), fun _ => ?_⟩
    have o2 := o2 rfl
    unfold eList
    unfold eNum at *
    rw [if_pos h1] at o1 ⊢
    cases hc : eCat e l with
    | none =>
      rw [hc] at o2
      exact o2
    | some y =>
      rw [hc] at o2
      exact ⟨o2.1, by rw [o2.2, o1.2, List.append_assoc]⟩
end
theorem Wr.congr {W : Type} {mk : List Int → Bool → W} {f g : W → Option W} {N : Nat} {r : Option (List Int)} (h : Wr mk f N r) (he : ∀ c, f c = g c) : Wr mk g N r := by
  have : f = g := funext he
  subst this
  exact h
theorem qse {lo hi n : Int} {b : List Int} {bad : Bool} (h : bad = true ↔ ¬(lo ≤ n ∧ n ≤ hi)) : OkW (eNum lo hi n) b (b ++ encN n) bad := by
  unfold eNum
  split
  · rename_i h1
    refine ⟨?_, rfl⟩
    cases bad
    · rfl
    · exact absurd h1 (h.1 rfl)
  · rename_i h1
    exact h.2 h1
theorem qt9 {s : ByteArray} {b b' : List Int} {bad : Bool} (h : bad = true ↔ ¬(s.size ≤ 40)) (hb : s.size ≤ 40 → b' = b ++ (encN s.size ++ toY s.data.toList)) : OkW (eText s) b b' bad := by
  unfold eText
  split
  · rename_i h1
    refine ⟨?_, hb h1⟩
    cases bad
    · rfl
    · exact absurd h1 (h.1 rfl)
  · rename_i h1
    exact h.2 h1
theorem qlE {lo hi n : Int} (h1 : lo ≤ n) (h2 : n ≤ hi) : eNum lo hi n = some (encN n) := if_pos ⟨h1, h2⟩
theorem qrv {s : ByteArray} (h : s.size ≤ 40) : eText s = some (encN s.size ++ toY s.data.toList) := if_pos h
theorem qvl (a b : List Int) : catO (some a) (some b) = some (a ++ b) := rfl
theorem qqp {s : ByteArray} (h : s.toList = []) : s = ⟨#[]⟩ := by
  obtain ⟨⟨l⟩⟩ := s
  rw [Lib.toList_data] at h
  subst h
  rfl
theorem nilB : (⟨#[]⟩ : ByteArray).toList = [] := by rw [Lib.toList_data]
theorem que {s : ByteArray} (h : s.toList = []) : s.size = 0 := by rw [qqp h]; rfl
theorem quN {s : ByteArray} (h : isOp s = true) : s.size = 1 := by
  unfold isOp at h
  rw [decide_eq_true_eq] at h
  have : s.size = s.toList.length := (qma s).symm
  rcases h with h | h | h | h | h <;> rw [this, h] <;> rfl
theorem qpx {s : ByteArray} (h : isName s = true) : s.size ≤ 40 := by
  unfold isName at h
  simp only [Bool.and_eq_true] at h
  exact (qjJ h.1.1).2.1
theorem qvL {t : T} (h : formT t = true) : t.k = 0 ∨ t.k = 1 ∨ t.k = 2 := by
  rcases Classical.em (t.k = 0) with h0 | h0
  · exact .inl h0
  rcases Classical.em (t.k = 1) with h1 | h1
  · exact .inr (.inl h1)
  rcases Classical.em (t.k = 2) with h2 | h2
  · exact .inr (.inr h2)
  rw [qqq h0 h1 h2] at h
  cases h
theorem qpt {t : T} (h : formT t = true) (k : t.k = 2) : t.i = 0 ∧ t.s.size ≤ 40 ∧ t.ar.length ≤ 6 ∧ formL t.ar = true := by
  rw [qo1 k, Bool.and_eq_true] at h
  obtain ⟨h1, h2⟩ := h
  unfold headF at h1
  simp only [Bool.and_eq_true, Bool.or_eq_true, decide_eq_true_eq] at h1
  obtain ⟨h3, h4 | h4⟩ := h1
  · exact ⟨h3, by rw [quN h4.1]; omega, by omega, h2⟩
  · exact ⟨h3, qpx h4.1, h4.2, h2⟩
theorem bT_2 {t : T} (k : t.k = 2) : bT t = encN t.k ++ ((encN t.s.size ++ toY t.s.data.toList) ++ (encN t.ar.length ++ bL t.ar)) := by
  cases t
  simp only [T.k] at k
  subst k
  rfl
theorem bT_n {t : T} (k : t.k ≠ 2) : bT t = encN t.k ++ encN t.i := by
  cases t
  simp only [T.k] at k
  simp only [bT, if_neg k, T.k, T.i]
theorem qkl {l : List T} (h : rightL l = true) : formL l = true ∧ sizeL l ≤ 200 ∧ depthL l ≤ 20 := by
  unfold rightL at h
  simp only [Bool.and_eq_true, decide_eq_true_eq] at h
  exact ⟨h.1.1, h.1.2, h.2⟩
theorem qpa {t : T} (h : rightT t = true) : formT t = true ∧ sizeT t ≤ 200 ∧ depthT t ≤ 20 := by
  unfold rightT at h
  simp only [Bool.and_eq_true, decide_eq_true_eq] at h
  exact ⟨h.1.1, h.1.2, h.2⟩
theorem qmF {a : At} (h : rightA a = true) : a.n.size ≤ 40 ∧ a.ts.length ≤ 6 ∧ rightL a.ts = true := by
  unfold rightA at h
  simp only [Bool.and_eq_true, decide_eq_true_eq] at h
  exact ⟨qpx h.1.1, h.1.2, h.2⟩
theorem qsr {op : Int} {n : Nat} (h : arityG op = (n : Int)) : 1 ≤ op ∧ op ≤ 12 ∧ n ≤ 2 := by
  unfold arityG at h
  split at h
  · omega
  · split at h
    · omega
    · split at h <;> omega
theorem qmy {g : Gl} (h : rightG g = true) : 0 ≤ g.op ∧ g.op ≤ 12 ∧ g.n.size ≤ 40 ∧ g.ts.length ≤ 6 ∧ rightL g.ts = true := by
  unfold rightG at h
  split at h
  · rename_i h0
    obtain ⟨h1, h2, h3⟩ := qmF h
    exact ⟨by omega, by omega, h1, h2, h3⟩
  · simp only [Bool.and_eq_true, decide_eq_true_eq] at h
    obtain ⟨h1, h2, h3⟩ := qsr h.1.2
    exact ⟨by omega, by omega, by rw [que h.1.1]; omega, by omega, h.2⟩
theorem qql {t : T} (k : t.k = 2) : depthT t = depthL t.ar + 1 ∧ sizeT t = 1 + sizeL t.ar := by
  cases t
  simp only [T.k] at k
  subst k
  exact ⟨rfl, rfl⟩
theorem quk (t : T) : 1 ≤ sizeT t := by rw [qkN]; omega
/-! ### The program -/
theorem qfV (n lo hi : Int) : Wr qa.mk (qr n lo hi) 10 (eNum lo hi n) := fun b bad hb => by
  have hl := qrk n
  have hc : qkt b n = some (b ++ encN n) := if_pos (by omega)
  have hl2 : (b ++ encN n).length ≤ b.length + 10 := by
    rw [List.length_append]
    omega
  unfold qr
  simp only [hc, Option.bind_some]
  cases bad with
  | true => exact ⟨b ++ encN n, true, by simp only [cond_true], hl2, id, fun h => by cases h⟩
  | false =>
    simp only [cond_false]
    by_cases h1 : n < lo
    · exact ⟨b ++ encN n, true, by rw [decide_eq_true h1, cond_true], hl2, fun _ => rfl, fun _ => qse (by simp; omega)⟩
    · exact ⟨b ++ encN n, decide (n > hi), by rw [decide_eq_false h1, cond_false], hl2, fun h => (by cases h), fun _ => qse (by simp; omega)⟩
theorem qti (s : ByteArray) {B : Nat} (hs : s.size ≤ B) : Wr qa.mk (qb6 s) (10 + B) (eText s) := fun b bad hb => by
  have hl := qtX s
  have hc : qkz b s = some (b ++ (encN s.size ++ toY s.data.toList)) := if_pos ⟨by omega, by omega⟩
  have hl2 : (b ++ (encN s.size ++ toY s.data.toList)).length ≤ b.length + (10 + B) := by
    rw [List.length_append]
    omega
  unfold qb6
  simp only [hc, Option.bind_some]
  cases bad with
  | true => exact ⟨_, true, by simp only [cond_true], hl2, id, fun h => by cases h⟩
  | false => exact ⟨_, decide ((s.size : Int) > 40), by simp only [cond_false], hl2, fun h => (by cases h), fun _ => qt9 (by simp; omega) fun _ => rfl⟩
theorem qs4 (x : Bool) : Wr qa.mk (fun c => (qjf c.f0_b x).bind fun r => some (⟨r, c.f1_bad⟩ : qa)) 1 (eBool x) := fun b bad hb => by
  have hc : qjf b x = some (b ++ [bif x then 1 else 0]) := if_pos (by omega)
  simp only [hc, Option.bind_some]
  exact ⟨_, bad, rfl, by simp, id, fun h => ⟨h, rfl⟩⟩
theorem qsQ (rec : List T → Int → qa → Option qa) (k : qa → Option qa) : ∀ l c, qcq k rec l c = (runW (qax rec) l c).bind k
  | [], c => rfl
  | x :: l, c => by
    rw [qcq, runW, Option.bind_assoc]
    congr 1
    funext r
    exact qsQ rec k l r
theorem quy {rec : List T → Int → qa → Option qa} : ∀ (l : List T), formL l = true → (∀ t ∈ l, formT t = true → Wr qa.mk (qax rec t) (70 * sizeT t) (some (bT t))) → Wr qa.mk (runW (qax rec) l) (70 * sizeL l) (some (bL l))
  | [], _, _ => Wr.pure
  | x :: l, hf, h => by
    simp only [formL, Bool.and_eq_true] at hf
    exact (((h x (by simp) hf.1).bind (quy l hf.2 fun y hy => h y (by simp [hy]))).eq (qvl _ _)).le (by simp only [sizeL]; omega)
theorem qrx {rec : List T → Int → qa → Option qa} (t : T) (hf : formT t = true) (hr : t.k = 2 → Wr qa.mk (rec t.ar 6) (10 + 70 * sizeL t.ar) (some (encN t.ar.length ++ bL t.ar))) : Wr qa.mk (qax rec t) (70 * sizeT t) (some (bT t)) := by
  have hp := quk t
  rcases qvL hf with k | k | k
  · rw [qqu k, decide_eq_true_eq] at hf
    refine (((qfV t.k 0 2).bind (qfV t.i (-2147483648) 2147483648).last).le (M := 70 * sizeT t) (by omega)).eq (s := some (bT t)) ?_ |>.congr fun c => ?_
    · rw [qlE (by omega) (by omega), qlE (by omega) (by omega), bT_n (by omega)]
      rfl
    · unfold qax
      simp [k]
  · rw [qqI k, decide_eq_true_eq] at hf
    refine (((qfV t.k 0 2).bind (qfV t.i 0 1048576).last).le (M := 70 * sizeT t) (by omega)).eq (s := some (bT t)) ?_ |>.congr fun c => ?_
    · rw [qlE (by omega) (by omega), qlE (by omega) (by omega), bT_n (by omega)]
      rfl
    · unfold qax
      simp [k]
  · obtain ⟨f1, f2, f3, f4⟩ := qpt hf k
    have hz := (qql k).2
    refine (((qfV t.k 0 2).bind ((qti t.s f2).bind (hr k).last)).le (M := 70 * sizeT t) (by omega)).eq (s := some (bT t)) ?_ |>.congr fun c => ?_
    · rw [qlE (by omega) (by omega), qrv f2, bT_2 k]
      rfl
    · unfold qax
      simp [k]
theorem qmM {t : T} : ∀ {l : List T}, t ∈ l → depthT t ≤ depthL l
  | x :: l, h => by
    simp only [depthL]
    rcases List.mem_cons.1 h with rfl | h
    · omega
    · have := qmM h
      omega
theorem qfh {W : Type} (x : Option W) : (x.bind fun y => some y) = x := by cases x <;> rfl
theorem qqy : ∀ (fuel : Nat) (l : List T), formL l = true → l.length ≤ 6 → depthL l < fuel → Wr qa.mk (qcI fuel l 6) (10 + 70 * sizeL l) (some (encN l.length ++ bL l))
  | 0, l, _, _, h => by omega
  | fuel + 1, l, hf, hl, hd => by
    have hrun := quy (rec := qcI fuel) l hf fun t ht hft => qrx t hft fun k => qqy fuel t.ar (qpt hft k).2.2.2 (qpt hft k).2.2.1 (by
      have := qmM ht
      have := (qql k).1
      omega)
    refine fun b bad hb => ?_
    obtain ⟨b1, bad1, e1, l1, m1, o1⟩ := qfV (l.length : Int) 0 6 b bad (by omega)
    rw [qcI]
    simp only [e1, Option.bind_some, qsQ, qfh]
    rw [qlE (by omega) (by omega)] at o1
    cases bad1 with
    | true =>
      refine ⟨b1, true, rfl, by omega, fun _ => rfl, fun h => ?_⟩
      exact absurd (o1 h).1 (by simp)
    | false =>
      have hbd : bad = false := by
        cases bad
        · rfl
        · exact absurd (m1 rfl) (by simp)
      obtain ⟨_, rfl⟩ := o1 hbd
      obtain ⟨b2, bad2, e2, l2, m2, o2⟩ := hrun (b ++ encN l.length) false (by omega)
      refine ⟨b2, bad2, e2, by omega, fun h => absurd (h.symm.trans hbd) (by simp), fun _ => ?_⟩
      obtain ⟨o3, o4⟩ := o2 rfl
      exact ⟨o3, by rw [o4, List.append_assoc]⟩
theorem qqY {fuel : Nat} (hfu : 21 ≤ fuel) (n : ByteArray) (l : List T) (hn : n.size ≤ 40) (hl : l.length ≤ 6) (hr : rightL l = true) : Wr qa.mk (qci fuel n l) 14060 (some (bArgs n l)) := by
  obtain ⟨h1, h2, h3⟩ := qkl hr
  refine (((qti n hn).bind (qqy fuel l h1 hl (by omega)).last).le (M := 14060) (by omega)).eq (s := some (bArgs n l)) ?_
  rw [qrv hn]
  rfl
theorem qtg {fuel : Nat} (hfu : 21 ≤ fuel) (a : At) (ha : wtL a.ts ≤ 1000000000) : Wr qa.mk (qco fuel a) 14060 (eAtom a) := fun b bad hb => by
  unfold qco
  simp only [qkU _ ha, Option.bind_some, qfh]
  cases bad with
  | true => exact ⟨b, true, rfl, by omega, id, fun h => by cases h⟩
  | false =>
    simp only [cond_false]
    unfold eAtom
    by_cases hr : rightA a = true
    · obtain ⟨r1, r2, r3⟩ := qmF hr
      rw [if_pos hr, hr]
      obtain ⟨b', bad', e1, l1, m1, o1⟩ := qqY hfu a.n a.ts r1 r2 r3 b false hb
      exact ⟨b', bad', e1, l1, m1, fun _ => o1 rfl⟩
    · rw [if_neg hr, Bool.not_eq_true _ |>.mp hr]
      exact ⟨b, true, rfl, by omega, fun _ => rfl, fun _ => rfl⟩
theorem qvd {fuel : Nat} (hfu : 21 ≤ fuel) (g : Gl) (ha : wtL g.ts ≤ 1000000000) : Wr qa.mk (qcV fuel g) 14070 (eGoal g) := fun b bad hb => by
  unfold qcV
  simp only [qmh _ ha, Option.bind_some, qfh]
  cases bad with
  | true => exact ⟨b, true, rfl, by omega, id, fun h => by cases h⟩
  | false =>
    simp only [cond_false]
    unfold eGoal
    by_cases hr : rightG g = true
    · obtain ⟨r0, r0', r1, r2, r3⟩ := qmy hr
      rw [if_pos hr, hr]
      have := ((qfV g.op 0 12).bind (qqY hfu g.n g.ts r1 r2 r3)).eq (s := some (encN g.op ++ bArgs g.n g.ts)) (by rw [qlE r0 r0']; rfl) b false hb
      obtain ⟨b', bad', e1, l1, m1, o1⟩ := this
      exact ⟨b', bad', e1, l1, m1, fun _ => o1 rfl⟩
    · rw [if_neg hr, Bool.not_eq_true _ |>.mp hr]
      exact ⟨b, true, rfl, by omega, fun _ => rfl, fun _ => rfl⟩
theorem qtB {fuel : Nat} (hfu : 21 ≤ fuel) (x : Int × T) (ha : wt x.2 ≤ 1000000000) : Wr qa.mk (qdH fuel x) 14010 (eBind x) := by
  refine ((qfV x.1 0 1048576).bind (g := fun r => bif r.f1_bad then (bif (!true) then (qdA fuel x.2 ⟨r.f0_b, true⟩) else some ⟨r.f0_b, true⟩) else (bif (!(!rightT x.2)) then (qdA fuel x.2 ⟨r.f0_b, !rightT x.2⟩) else some ⟨r.f0_b, !rightT x.2⟩)) (M := 14000) (s := eT x.2) ?_).congr fun c => ?_
  · intro b bad hb
    cases bad with
    | true => exact ⟨b, true, rfl, by omega, id, fun h => by cases h⟩
    | false =>
      simp only [cond_false]
      unfold eT
      by_cases hr : rightT x.2 = true
      · obtain ⟨r1, r2, r3⟩ := qpa hr
        rw [if_pos hr, hr]
        obtain ⟨b', bad', e1, l1, m1, o1⟩ := (qrx (rec := qcI fuel) x.2 r1 fun k => qqy fuel x.2.ar (qpt r1 k).2.2.2 (qpt r1 k).2.2.1 (by have := (qql k).1; omega)).le (M := 14000) (by omega) b false hb
        exact ⟨b', bad', e1, l1, m1, fun _ => o1 rfl⟩
      · rw [if_neg hr, Bool.not_eq_true _ |>.mp hr]
        exact ⟨b, true, rfl, by omega, fun _ => rfl, fun _ => rfl⟩
  · unfold qdH
    simp only [qnX _ ha, Option.bind_some, qfh]
theorem qtS {fuel : Nat} (hfu : 21 ≤ fuel) (f : qas) (ha : wtL f.f0_Goal.ts ≤ 1000000000) : Wr qa.mk (qcJ fuel f) 14090 (eFrame f) := by
  unfold qcJ
  refine ((qfV f.f1_ID 0 2147483648).bind ((qfV f.f2_Occ (-1) 2147483648).bind (M := 14070) ?_)).le (by omega)
  intro b bad hb
  by_cases h0 : f.f1_ID = 0
  · simp only [h0, qfh, beq_self_eq_true, cond_true, if_true]
    exact qvd hfu f.f0_Goal ha b bad hb
  · have h0' : (f.f1_ID == 0) = false := by simpa using h0
    simp only [h0', cond_false, if_neg h0]
    cases bad with
    | true => exact ⟨b, true, rfl, by omega, id, fun h => by cases h⟩
    | false =>
      simp only [cond_false]
      by_cases h1 : f.f0_Goal.op = 0
      · by_cases h2 : f.f0_Goal.n.toList = []
        · have e1 : (f.f0_Goal.op != 0) = false := by simp [h1]
          have e2 : (!(f.f0_Goal.n.toList == (⟨#[]⟩ : ByteArray).toList)) = false := by rw [h2, nilB]; rfl
          rw [e1, e2, cond_false, cond_false]
          refine ⟨b, _, rfl, by omega, fun h => (by cases h), fun _ => ?_⟩
          cases hts : f.f0_Goal.ts with
          | nil =>
            rw [if_pos ⟨h1, h2, rfl⟩]
            exact ⟨by simp, by simp⟩
          | cons x l =>
            rw [if_neg (by simp)]
            show _ = true
            simp
        · have e1 : (f.f0_Goal.op != 0) = false := by simp [h1]
          have e2 : (!(f.f0_Goal.n.toList == (⟨#[]⟩ : ByteArray).toList)) = true := by
            rw [Bool.not_eq_true', beq_eq_false_iff_ne, nilB]
            exact h2
          rw [e1, e2, cond_false, cond_true]
          exact ⟨b, true, rfl, by omega, fun _ => rfl, fun _ => by rw [if_neg (fun h => h2 h.2.1)]; rfl⟩
      · have e1 : (f.f0_Goal.op != 0) = true := by simpa using h1
        rw [e1, cond_true]
        exact ⟨b, true, rfl, by omega, fun _ => rfl, fun _ => by rw [if_neg (fun h => h1 h.1)]; rfl⟩
structure RuleS (x : qU) : Prop where
  n : x.f0_Name.size ≤ 2000
  k : ∀ y ∈ x.f1_Keep, wtL y.ts ≤ 1000000000
  r : ∀ y ∈ x.f2_Remove, wtL y.ts ≤ 1000000000
  g : ∀ y ∈ x.f3_Guard, wtL y.ts ≤ 1000000000
  b : ∀ y ∈ x.f4_Body, wtL y.ts ≤ 1000000000
theorem qtm (k : qa → Option qa) (fuel : Nat) : ∀ l c, qcM k fuel l c = (runW (qcJ fuel) l c).bind k
  | [], c => rfl
  | x :: l, c => by
    rw [qcM, runW, Option.bind_assoc]
    congr 1
    funext r
    exact qtm k fuel l r
theorem qt5 {fuel : Nat} (hfu : 21 ≤ fuel) (l : List qas) (ha : ∀ x ∈ l, wtL x.f0_Goal.ts ≤ 1000000000) : Wr qa.mk (qfI fuel l 1000) (10 + 1000 * 14090) (eList 1000 eFrame l) := by
  unfold qfI
  simp only [qtm, qfh]
  exact qmf (bad := qa.f1_bad) (fun _ _ => rfl) (fun h => by omega) (qfV _ 0 1000) (qm2 l fun x hx => qtS hfu x (ha x hx))
theorem quW {fuel : Nat} (hfu : 21 ≤ fuel) (x : Int × At) (ha : wtL x.2.ts ≤ 1000000000) : Wr qa.mk (qdF fuel x) 14070 (eItem x) := by
  unfold qdF
  exact ((qfV x.1 0 2147483648).bind (qtg hfu x.2 ha).last)
theorem qtq (k : qa → Option qa) (fuel : Nat) : ∀ l c, qcL k fuel l c = (runW (qdF fuel) l c).bind k
  | [], c => rfl
  | x :: l, c => by
    rw [qcL, runW, Option.bind_assoc]
    congr 1
    funext r
    exact qtq k fuel l r
theorem quf {fuel : Nat} (hfu : 21 ≤ fuel) (l : List (Int × At)) (ha : ∀ x ∈ l, wtL x.2.ts ≤ 1000000000) : Wr qa.mk (qfE fuel l 500) (10 + 500 * 14070) (eList 500 eItem l) := by
  unfold qfE
  simp only [qtq, qfh]
  exact qmf (bad := qa.f1_bad) (fun _ _ => rfl) (fun h => by omega) (qfV _ 0 500) (qm2 l fun x hx => quW hfu x (ha x hx))
theorem qsd (k : qa → Option qa) (fuel : Nat) : ∀ l c, qcN k fuel l c = (runW (qdH fuel) l c).bind k
  | [], c => rfl
  | x :: l, c => by
    rw [qcN, runW, Option.bind_assoc]
    congr 1
    funext r
    exact qsd k fuel l r
theorem qtT {fuel : Nat} (hfu : 21 ≤ fuel) (l : List (Int × T)) (ha : ∀ x ∈ l, wt x.2 ≤ 1000000000) : Wr qa.mk (qfF fuel l 1048576) (10 + l.length * 14010) (eList 1048576 eBind l) := by
  unfold qfF
  simp only [qsd, qfh]
  exact qmf (bad := qa.f1_bad) (fun _ _ => rfl) (fun _ => Nat.le_refl _) (qfV _ 0 1048576) (qm2 l fun x hx => qtB hfu x (ha x hx))
theorem qrg (k : qa → Option qa) (h : Int) : ∀ l c, qcz k h l c = (runW (fun x => qdw x h) l c).bind k
  | [], c => rfl
  | x :: l, c => by
    rw [qcz, runW, Option.bind_assoc]
    congr 1
    funext r
    exact qrg k h l r
theorem qmT (l : List Int) (most hi : Int) {m : Nat} (hm : most ≤ (m : Int)) : Wr qa.mk (qaz l most hi) (10 + m * 10) (eNums most hi l) := by
  unfold qaz qfY
  simp only [qrg, qfh]
  exact qmf (bad := qa.f1_bad) (fun _ _ => rfl) (fun h => by omega) (qfV _ 0 most) (qm2 l fun x hx => (qfV x 0 hi).last)
theorem quZ (x : qZ) : Wr qa.mk (qdI x) 60 (eFire x) := by
  unfold qdI
  exact ((qfV x.f0_Rule 0 40).bind (qmT x.f1_IDs 4 2147483648 (m := 4) (by omega)).last)
theorem qsq (k : qa → Option qa) : ∀ l c, qcP k l c = (runW (qdI) l c).bind k
  | [], c => rfl
  | x :: l, c => by
    rw [qcP, runW, Option.bind_assoc]
    congr 1
    funext r
    exact qsq k l r
theorem qt2 (l : List qZ) : Wr qa.mk (qfz l 5000) (10 + 5000 * 60) (eList 5000 eFire l) := by
  unfold qfz
  simp only [qsq, qfh]
  exact qmf (bad := qa.f1_bad) (fun _ _ => rfl) (fun h => by omega) (qfV _ 0 5000) (qm2 l fun x hx => quZ x)
theorem qvf {fuel : Nat} (hfu : 21 ≤ fuel) (x : qX) (ha : wtL x.f1_Atom.ts ≤ 1000000000) : Wr qa.mk (qcW fuel x) 15000 (eFact x) := by
  unfold qcW
  exact ((qfV x.f0_ID 0 2147483648).bind ((qtg hfu x.f1_Atom ha).bind (qmT x.f2_Just 64 64 (m := 64) (by omega)).last)).le (by omega)
theorem qrF (x : qat) : Wr qa.mk (qct x) 1000 (eApplied x) := by
  have h := ((qfV x.f0_Rule 0 40).bind ((qmT x.f1_Heads 4 2147483648 (m := 4) (by omega)).bind ((qmT x.f2_Gone 4 2147483648 (m := 4) (by omega)).bind ((qmT x.f3_Made 12 2147483648 (m := 12) (by omega)).bind ((qs4 x.f4_Failed).bind (qmT x.f5_Just 64 64 (m := 64) (by omega)).last))))).le (M := 1000) (by omega)
  refine h.congr fun c => ?_
  unfold qct
  simp only [Option.bind_assoc, Option.bind_some]
theorem qq2 (k : qa → Option qa) (fuel : Nat) : ∀ l c, qcF k fuel l c = (runW (qcW fuel) l c).bind k
  | [], c => rfl
  | x :: l, c => by
    rw [qcF, runW, Option.bind_assoc]
    congr 1
    funext r
    exact qq2 k fuel l r
theorem qpP {fuel : Nat} (hfu : 21 ≤ fuel) (l : List qX) (ha : ∀ x ∈ l, wtL x.f1_Atom.ts ≤ 1000000000) : Wr qa.mk (qeN fuel l 5000) (10 + 5000 * 15000) (eList 5000 eFact l) := by
  unfold qeN
  simp only [qq2, qfh]
  exact qmf (bad := qa.f1_bad) (fun _ _ => rfl) (fun h => by omega) (qfV _ 0 5000) (qm2 l fun x hx => qvf hfu x (ha x hx))
theorem qrp (k : qa → Option qa) : ∀ l c, qcD k l c = (runW (qct) l c).bind k
  | [], c => rfl
  | x :: l, c => by
    rw [qcD, runW, Option.bind_assoc]
    congr 1
    funext r
    exact qrp k l r
theorem qtk (l : List qat) : Wr qa.mk (qfn l 5000) (10 + 5000 * 1000) (eList 5000 eApplied l) := by
  unfold qfn
  simp only [qrp, qfh]
  exact qmf (bad := qa.f1_bad) (fun _ _ => rfl) (fun h => by omega) (qfV _ 0 5000) (qm2 l fun x hx => qrF x)
theorem quH {f : qa → Option qa} {N : Nat} {r : Option (List Int)} (h : Wr qa.mk f N r) (hN : N ≤ 1000000000) : ((f ⟨[], false⟩).bind fun c => qcx c) = some (r.getD []) := by
  obtain ⟨b1, bad1, e1, l1, m1, o1⟩ := h [] false (by simpa using hN)
  rw [e1, Option.bind_some]
  have o1 := o1 rfl
  unfold qcx
  cases r with
  | none =>
    have o1 : bad1 = true := o1
    subst o1
    rfl
  | some e =>
    obtain ⟨rfl, rfl⟩ := o1
    simp
structure ConfigS (c : qar) : Prop where
  k : ∀ x ∈ c.f0_Stack, wtL x.f0_Goal.ts ≤ 1000000000
  s : ∀ x ∈ c.f1_Store, wtL x.2.ts ≤ 1000000000
  b : ∀ x ∈ c.f2_Binds, wt x.2 ≤ 1000000000
  n : c.f2_Binds.length ≤ 50000
theorem qta {fuel : Nat} (hfu : 21 ≤ fuel) (c : qar) (h : ConfigS c) : qey fuel c = some ((eConfig c).getD []) := by
  have hn := h.n
  have h := ((qfV 2 2 2).bind ((qt5 hfu c.f0_Stack h.k).bind ((quf hfu c.f1_Store h.s).bind ((qtT hfu c.f2_Binds h.b).bind ((qt2 c.f3_Fired).bind ((qfV c.f4_Next 0 2147483648).bind ((qfV c.f5_Fresh 0 1048576).bind (qs4 c.f6_Failed))))))))
  rw [← quH (r := eConfig c) h (by omega)]
  unfold qey
  simp only [Option.bind_assoc, qfh, Option.bind_some]
theorem qsU {fuel : Nat} (hfu : 21 ≤ fuel) (m : qab) (h1 : ∀ x ∈ m.f0_Facts, wtL x.f1_Atom.ts ≤ 1000000000) (h2 : ∀ x ∈ m.f1_Past, wtL x.f1_Atom.ts ≤ 1000000000) : qdQ fuel m = some ((eMemory m).getD []) := by
  have h := ((qfV 3 3 3).bind ((qpP hfu m.f0_Facts h1).bind ((qpP hfu m.f1_Past h2).bind ((qtk m.f2_Log).bind ((qfV m.f3_Next 0 2147483648).bind (qfV m.f4_Given 0 64))))))
  rw [← quH (r := eMemory m) h (by omega)]
  unfold qdQ
  simp only [Option.bind_assoc, qfh]
def TotP {α : Type} (x : Option α) (Q : α → Prop) : Prop := ∃ a, x = some a ∧ Q a
theorem TotP.pure {α : Type} {a : α} {Q : α → Prop} (h : Q a) : TotP (some a) Q := ⟨a, rfl, h⟩
theorem TotP.bind {α β : Type} {x : Option α} {R : α → Prop} {f : α → Option β} {Q : β → Prop} (h : TotP x R) (hf : ∀ a, R a → TotP (f a) Q) : TotP (x.bind f) Q := by
  obtain ⟨a, rfl, ha⟩ := h
  exact hf a ha
theorem TotP.cond {α : Type} {b : Bool} {x y : Option α} {Q : α → Prop} (h1 : b = true → TotP x Q) (h2 : b = false → TotP y Q) : TotP (bif b then x else y) Q := by
  cases b with
  | true => exact h1 rfl
  | false => exact h2 rfl
theorem TotP.mono {α : Type} {x : Option α} {Q R : α → Prop} (h : TotP x Q) (hq : ∀ a, Q a → R a) : TotP x R := by
  obtain ⟨a, h1, h2⟩ := h
  exact ⟨a, h1, hq a h2⟩
def wA : List At → Nat
  | [] => 0
  | a :: l => 1 + wtL a.ts + wA l
theorem qsE {a : At} : ∀ {l : List At}, a ∈ l → wtL a.ts ≤ wA l
  | x :: l, h => by
    simp only [wA]
    rcases List.mem_cons.1 h with rfl | h
    · omega
    · have := qsE h
      omega
theorem tdiv8 (s : Nat) : Int.tdiv (s : Int) 8 = ((s / 8 : Nat) : Int) := by
  rw [Int.tdiv_eq_ediv_of_nonneg (by omega)]
  rfl
theorem qu9 (m : Int) (s : Nat) (h1 : 0 ≤ m) (h2 : m ≤ 1000) (hs : s ≤ 9223372036854775807) : wr ((wr (m - 1)) - (wr (Int.tdiv (s : Int) 8))) = m - 1 - ((s / 8 : Nat) : Int) := by
  rw [tdiv8, qoP (n := m - 1) (by omega), qoP (n := ((s / 8 : Nat) : Int)) (by omega), qoP (by omega)]
theorem qrC (ts : List T) (m : Int) (h1 : -9223372036854775808 ≤ m) (h2 : m ≤ 1000) : qov ts m 64 = some (weighF 64 ts m) := by
  rw [qov, if_pos ⟨⟨h1, by omega⟩, by omega, by omega⟩]
  rfl
theorem qpn (k : Int → Option Bool) : ∀ (l : List At) (m : Int), m ≤ 1000 → (∀ a ∈ l, a.n.size ≤ 9223372036854775807) → ∃ r, qaB k l m = k r ∧ (0 ≤ r → (wA l : Int) + r ≤ m)
  | [], m, _, _ => ⟨m, by rw [qaB], fun _ => by simp [wA]⟩
  | a :: l, m, hm, hn => by
    rw [qaB]
    by_cases h : m ≥ 0
    · have hs := hn a (List.mem_cons_self ..)
      rw [decide_eq_true h, cond_true, qu9 m _ h hm hs, qrC _ _ (by omega) (by omega), Option.bind_some]
      have h1 := qlA 64 a.ts (m - 1 - ((a.n.size / 8 : Nat) : Int))
      have h2 := qoE 64 a.ts (m - 1 - ((a.n.size / 8 : Nat) : Int))
      obtain ⟨r, e1, e2⟩ := qpn k l (weighF 64 a.ts (m - 1 - ((a.n.size / 8 : Nat) : Int))) (by omega) fun x hx => hn x (List.mem_cons_of_mem _ hx)
      refine ⟨r, e1, fun hr => ?_⟩
      have := e2 hr
      simp only [wA]
      omega
    · rw [decide_eq_false h, cond_false]
      exact ⟨m, rfl, fun hr => absurd hr h⟩
theorem qoR (l : List At) (m : Int) (hm : m ≤ 1000) (hn : ∀ a ∈ l, a.n.size ≤ 9223372036854775807) : TotP (qdj l m) fun b => b = false → (wA l : Int) ≤ m := by
  unfold qdj
  obtain ⟨r, e1, e2⟩ := qpn (fun m => some (decide (m < 0))) l m hm hn
  rw [e1]
  refine ⟨_, rfl, fun h => ?_⟩
  have := of_decide_eq_false h
  have := e2 (by omega)
  omega
/-! ### names are strings of the machine -/
theorem qqa {p : Addr → Prop} {w : World} : ∀ {ds : List D} {cs : List Value}, Reps p w ds cs → ∀ d ∈ ds, ∃ v, Rep p w d v
  | [], _, _, _, h => by cases h
  | x :: ds, cs, h, d, hd => by
    simp only [Reps] at h
    obtain ⟨v, rest, _, h1, h2⟩ := h
    exact (List.mem_cons.1 hd).elim (fun e => e ▸ ⟨v, h1⟩) (qqa h2 d)
theorem qn3 {p : Addr → Prop} {w : World} {fs : List D} {v : Value} (h : Rep p w (.agg fs) v) (d : D) (hd : d ∈ fs) : ∃ v, Rep p w d v := by
  simp only [Rep] at h
  obtain ⟨cs, _, h, _⟩ := h
  exact qqa h d hd
theorem qsb {α : Type} {f : α → D} {p : Addr → Prop} {w : World} {l : List α} {v : Value} (h : Rep p w (.lst (l.map f)) v) (a : α) (ha : a ∈ l) : ∃ v, Rep p w (f a) v := by
  simp only [Rep] at h
  obtain ⟨A, c, xs, _, _, _, _, h, _⟩ := h
  exact qqa h _ (List.mem_map.2 ⟨a, ha, rfl⟩)
theorem qvB {p : Addr → Prop} {w : World} {s : ByteArray} {v : Value} (h : Rep p w (.str s) v) : s.size ≤ 9223372036854775807 := by
  simp only [Rep] at h
  exact h.2
theorem nmA1 {p : Addr → Prop} {w : World} {a : At} {v : Value} (h : Rep p w (encA a) v) : a.n.size ≤ 9223372036854775807 := by
  obtain ⟨v, h⟩ := qn3 h (.str a.n) (by simp)
  exact qvB h
theorem qvz {p : Addr → Prop} {w : World} {m : qab} {v : Value} (h : Rep p w (qx m) v) : (∀ x ∈ m.f0_Facts, x.f1_Atom.n.size ≤ 9223372036854775807) ∧ ∀ x ∈ m.f1_Past, x.f1_Atom.n.size ≤ 9223372036854775807 := by
  obtain ⟨_, h1⟩ := qn3 h (.lst (m.f0_Facts.map qu)) (by simp)
  obtain ⟨_, h2⟩ := qn3 h (.lst (m.f1_Past.map qu)) (by simp)
  refine ⟨fun x hx => ?_, fun x hx => ?_⟩
  · obtain ⟨_, h3⟩ := qsb h1 x hx
    obtain ⟨_, h4⟩ := qn3 h3 (encA x.f1_Atom) (by simp)
    exact nmA1 h4
  · obtain ⟨_, h3⟩ := qsb h2 x hx
    obtain ⟨_, h4⟩ := qn3 h3 (encA x.f1_Atom) (by simp)
    exact nmA1 h4
/-! ### memories that are few -/
theorem quw (k : Option Bool) {kb : Bool} (hk : k = some kb) : ∀ l : List qat, TotP (qb4 k l) fun b => b = true → kb = true
  | [] => ⟨kb, by rw [qb4, hk], id⟩
  | x :: l => by
    rw [qb4]
    exact .cond (fun _ => .pure fun h => by cases h) fun _ => .cond (fun _ => .pure fun h => by cases h) fun _ => .cond (fun _ => .pure fun h => by cases h) fun _ => .cond (fun _ => .pure fun h => by cases h) fun _ => quw k hk l
theorem qur {Q : Prop} (k : List At → Option Bool) : ∀ (l : List qX) (acc : List At), acc.length + l.length ≤ 1000 → (TotP (k (acc ++ l.map qX.f1_Atom)) fun b => b = true → Q) → TotP (qbW k l acc) fun b => b = true → Q
  | [], acc, _, h => by
    rw [qbW]
    simpa using h
  | x :: l, acc, hl, h => by
    rw [qbW, qho (by simp only [List.length_cons, List.length_nil] at hl ⊢; omega) (by simp only [List.length_cons, List.length_nil] at hl ⊢; omega), Option.bind_some]
    exact .cond (fun _ => .pure fun h => by cases h) fun _ => qur k l _ (by simp only [List.length_append, List.length_cons, List.length_nil] at hl ⊢; omega) (by simpa using h)
theorem qus {Q : Prop} (k : List At → Option Bool) : ∀ (l : List qX) (acc : List At), acc.length + l.length ≤ 1000 → (TotP (k (acc ++ l.map qX.f1_Atom)) fun b => b = true → Q) → TotP (qb2 k l acc) fun b => b = true → Q
  | [], acc, _, h => by
    rw [qb2]
    simpa using h
  | x :: l, acc, hl, h => by
    rw [qb2, qho (by simp only [List.length_cons, List.length_nil] at hl ⊢; omega) (by simp only [List.length_cons, List.length_nil] at hl ⊢; omega), Option.bind_some]
    exact .cond (fun _ => .pure fun h => by cases h) fun _ => qus k l _ (by simp only [List.length_append, List.length_cons, List.length_nil] at hl ⊢; omega) (by simpa using h)
theorem qvr (m : qab) (hn : (∀ x ∈ m.f0_Facts, x.f1_Atom.n.size ≤ 9223372036854775807) ∧ ∀ x ∈ m.f1_Past, x.f1_Atom.n.size ≤ 9223372036854775807) : TotP (qeQ m) fun b => b = true → (∀ x ∈ m.f0_Facts, wtL x.f1_Atom.ts ≤ 1000000000) ∧ ∀ x ∈ m.f1_Past, wtL x.f1_Atom.ts ≤ 1000000000 := by
  unfold qeQ
  refine .cond (fun _ => .pure fun h => by cases h) fun h1 => .cond (fun _ => .pure fun h => by cases h) fun h2 => .cond (fun _ => .pure fun h => by cases h) fun h3 => ?_
  have h1 := of_decide_eq_false h1
  have h2 := of_decide_eq_false h2
  refine qus _ _ _ (by simp only [List.length_nil]; omega) ?_
  rw [List.nil_append]
  refine qur _ _ _ (by simp only [List.length_map]; omega) ?_
  obtain ⟨b, e1, e2⟩ := qoR (m.f0_Facts.map qX.f1_Atom ++ m.f1_Past.map qX.f1_Atom) 600 (by omega) (fun a ha => by
    rcases List.mem_append.1 ha with ha | ha
    · obtain ⟨x, hx, rfl⟩ := List.mem_map.1 ha
      exact hn.1 x hx
    · obtain ⟨x, hx, rfl⟩ := List.mem_map.1 ha
      exact hn.2 x hx)
  refine (quw _ (kb := !b) (by rw [e1]; rfl) m.f2_Log).mono fun r hr hr1 => ?_
  have hb : b = false := by
    have := hr hr1
    cases b
    · rfl
    · cases this
  have hw := e2 hb
  refine ⟨fun x hx => ?_, fun x hx => ?_⟩
  · have := qsE (List.mem_append_left (m.f1_Past.map qX.f1_Atom) (List.mem_map_of_mem (f := qX.f1_Atom) hx))
    omega
  · have := qsE (List.mem_append_right (m.f0_Facts.map qX.f1_Atom) (List.mem_map_of_mem (f := qX.f1_Atom) hx))
    omega
/-! ### states that are small, of bulk at most 1048576 -/
theorem qoq (k : List Gl → Option (List Gl)) : ∀ (l : List qas) (acc : List Gl), acc.length + l.length ≤ 1000 → qbA k l acc = k (acc ++ l.map qas.f0_Goal)
  | [], acc, _ => by
    rw [qbA]
    simp
  | x :: l, acc, hl => by
    rw [qbA, qho (by simp only [List.length_cons, List.length_nil] at hl ⊢; omega) (by simp only [List.length_cons, List.length_nil] at hl ⊢; omega), Option.bind_some, qoq k l _ (by simp only [List.length_append, List.length_cons, List.length_nil] at hl ⊢; omega)]
    simp
def AnyB : Bool → Prop := fun _ => True
theorem qr5 (k : Option Bool) (hk : TotP k AnyB) : ∀ (l : List T) (n : Int), (∀ t ∈ l, wt t ≤ 1000000000) → TotP (qbO k l n) AnyB
  | [], n, _ => by rw [qbO]; exact hk
  | t :: l, n, h => by
    rw [qbO, qoh _ (h t (by simp)), Option.bind_some]
    exact .cond (fun _ => .pure trivial) fun _ => qr5 k hk l _ fun x hx => h x (by simp [hx])
theorem qsY {t : T} : ∀ {l : List T}, t ∈ l → wt t ≤ wtL l
  | x :: l, h => by
    simp only [wtL]
    rcases List.mem_cons.1 h with rfl | h
    · omega
    · have := qsY h
      omega
theorem qqo (l : List T) (h : wtL l ≤ 1000000000) : TotP (qdc l) AnyB := by
  unfold qdc
  exact .cond (fun _ => .pure trivial) fun _ => qr5 _ ⟨_, rfl, trivial⟩ l 0 fun t ht => Nat.le_trans (qsY ht) h
theorem qof (k : Option Bool) (hk : TotP k AnyB) : ∀ (l : List Gl), (∀ g ∈ l, wtL g.ts ≤ 1000000000) → TotP (qbw k l) AnyB
  | [], _ => by rw [qbw]; exact hk
  | g :: l, h => by
    rw [qbw]
    exact .bind (qqo g.ts (h g (by simp))) fun _ _ => .cond (fun _ => .pure trivial) fun _ => qof k hk l fun x hx => h x (by simp [hx])
theorem qmL (l : List Gl) (m : Int) (h : ∀ g ∈ l, wtL g.ts ≤ 1000000000) : TotP (qcU l m) AnyB := by
  unfold qcU
  exact .cond (fun _ => .pure trivial) fun _ => qof _ ⟨_, rfl, trivial⟩ l h
theorem qqP (k : Option Bool) (hk : TotP k AnyB) : ∀ (l : List qZ), TotP (qbn k l) AnyB
  | [] => by rw [qbn]; exact hk
  | g :: l => by
    rw [qbn]
    exact .cond (fun _ => .pure trivial) fun _ => qqP k hk l
theorem qre (k : Option Bool) (hk : TotP k AnyB) : ∀ (l : List (Int × T)), (∀ x ∈ l, wt x.2 ≤ 1000000000) → TotP (qbu k l) AnyB
  | [], _ => by rw [qbu]; exact hk
  | g :: l, h => by
    rw [qbu, qoh _ (h g (by simp)), Option.bind_some]
    exact .cond (fun _ => .pure trivial) fun _ => qre k hk l fun x hx => h x (by simp [hx])
theorem qrq (k : Option Bool) (hk : TotP k AnyB) : ∀ (l : List (Int × At)), (∀ x ∈ l, wtL x.2.ts ≤ 1000000000) → TotP (qbp k l) AnyB
  | [], _ => by rw [qbp]; exact hk
  | g :: l, h => by
    rw [qbp]
    exact .bind (qqo _ (h g (by simp))) fun _ _ => .cond (fun _ => .pure trivial) fun _ => qrq k hk l fun x hx => h x (by simp [hx])
structure ConfigB (c : qar) : Prop where
  k : ∀ x ∈ c.f0_Stack, wtL x.f0_Goal.ts ≤ 1000000000
  s : ∀ x ∈ c.f1_Store, wtL x.2.ts ≤ 1000000000
  b : ∀ x ∈ c.f2_Binds, wt x.2 ≤ 1000000000
theorem qtF (l : List (Int × At)) (b : List (Int × T)) (f : List qZ) (h1 : ∀ x ∈ l, wtL x.2.ts ≤ 1000000000) (h2 : ∀ x ∈ b, wt x.2 ≤ 1000000000) : TotP (qeq l b f) fun r => r = true → b.length ≤ 20 := by
  unfold qeq
  refine .cond (fun _ => .pure fun h => by cases h) fun _ => .cond (fun _ => .pure fun h => by cases h) fun hb => .cond (fun _ => .pure fun h => by cases h) fun _ => ?_
  have hb := of_decide_eq_false hb
  exact (qrq _ (qre _ (qqP _ ⟨_, rfl, trivial⟩ f) b h2) l h1).mono fun _ _ _ => by omega
theorem qtI (c : qar) (h : ConfigB c) : TotP (qeg c) fun r => r = true → ConfigS c := by
  unfold qeg
  refine .cond (fun h30 => ?_) fun _ => .pure fun h => by cases h
  have h30 := of_decide_eq_true h30
  unfold qe8
  rw [qoq _ _ _ (by simp only [List.length_nil]; omega), Option.bind_some, List.nil_append]
  refine .bind (qmL _ 30 fun g hg => ?_) fun r _ => .cond (fun _ => ?_) fun _ => .pure fun h => by cases h
  · obtain ⟨x, hx, rfl⟩ := List.mem_map.1 hg
    exact h.k x hx
  · exact .bind (qtF _ _ _ h.s h.b) fun r hr => .pure fun h1 => ⟨h.k, h.s, h.b, by have := hr h1; omega⟩
theorem qvy {α : Type} (pre : List α) (q : α) (l : List α) : getI (pre ++ q :: l) (pre.length : Int) = some q := by
  rw [qjQ]
  simp
structure RuleW (x : qU) : Prop where
  k : ∀ y ∈ x.f1_Keep, wtL y.ts ≤ 1000000000
  r : ∀ y ∈ x.f2_Remove, wtL y.ts ≤ 1000000000
  g : ∀ y ∈ x.f3_Guard, wtL y.ts ≤ 1000000000
  b : ∀ y ∈ x.f4_Body, wtL y.ts ≤ 1000000000
def Any {α : Type} : α → Prop := fun _ => True
abbrev TT (x : Option Bool) (Q : Prop) : Prop := TotP x fun b => b = true → Q
theorem TT.no {Q : Prop} : TT (some false) Q := ⟨false, rfl, fun h => nomatch h⟩
theorem TT.yes {b : Bool} {Q : Prop} (h : b = true → Q) : TT (some b) Q := ⟨b, rfl, h⟩
theorem TT.c1 {b : Bool} {x : Option Bool} {Q : Prop} (h : b = false → TT x Q) : TT (bif b then some false else x) Q := by
  cases b with
  | true => exact .no
  | false => exact h rfl
theorem TT.c2 {b : Bool} {x : Option Bool} {Q : Prop} (h : b = true → TT x Q) : TT (bif b then x else some false) Q := by
  cases b with
  | true => exact h rfl
  | false => exact .no
theorem TT.bind {x : Option Bool} {f : Bool → Option Bool} {R Q : Prop} (hx : TT x R) (hf : f false = some false) (h : R → TT (f true) Q) : TT (x.bind f) Q := by
  obtain ⟨b, rfl, hb⟩ := hx
  cases b with
  | true => exact h (hb rfl)
  | false => exact ⟨false, hf, fun h => nomatch h⟩
theorem TT.mono {x : Option Bool} {Q R : Prop} (h : TT x Q) (hq : Q → R) : TT x R := by
  obtain ⟨b, e, hb⟩ := h
  exact ⟨b, e, fun ht => hq (hb ht)⟩
theorem TotP.any {α : Type} {x : Option α} {Q : α → Prop} (h : TotP x Q) : TotP x Any := h.mono fun _ _ => trivial
/-! ### variables -/
theorem qsf (n : Int) : ∀ l : List Int, TotP (qb1 (some false) n l) Any
  | [] => ⟨false, by rw [qb1], trivial⟩
  | q :: l => by
    rw [qb1]
    exact .cond (fun _ => .pure trivial) fun _ => qsf n l
theorem quR (k : List Int → Option (List Int)) (l : List Int) (t : T) {Q : List Int → Prop} (hl : l.length ≤ 1000000) (h : ∀ l', l'.length ≤ l.length + 1 → TotP (k l') Q) : TotP (qcy k l t) Q := by
  unfold qcy
  refine .cond (fun _ => ?_) fun _ => h l (by omega)
  unfold qfM
  refine .bind (qsf t.i l) fun _ _ => .cond (fun _ => ?_) fun _ => h l (by omega)
  rw [qho (by simp only [List.length_cons, List.length_nil]; omega) (by simp only [List.length_cons, List.length_nil]; omega), Option.bind_some]
  exact h _ (by simp)
theorem qsw (rec : List Int → T → Option (List Int)) (M : Nat) : ∀ (ts : List T) (l : List Int), (∀ t ∈ ts, ∀ l', l'.length + sizeT t ≤ M → TotP (rec l' t) fun r => r.length ≤ l'.length + sizeT t) → l.length + sizeL ts ≤ M → TotP (qaL (fun l => some l) rec ts l) fun r => r.length ≤ l.length + sizeL ts
  | [], l, _, _ => by
    rw [qaL]
    exact .pure (by simp [sizeL])
  | t :: ts, l, h, hN => by
    simp only [sizeL] at hN
    rw [qaL]
    refine .bind (h t (by simp) l (by omega)) fun r hr => (qsw rec M ts r (fun x hx => h x (by simp [hx])) (by omega)).mono fun r' hr' => ?_
    simp only [sizeL]
    omega
theorem qvc (t : T) : qdK t = some t.used := by
  unfold qdK T.used
  by_cases h : t.k = 2
  · simp [h]
  · have : (t.k == 2) = false := by simpa using h
    simp [h, this]
theorem qom (t : T) : depthT t = depthL t.used + 1 := by
  cases t with
  | mk k i s ar =>
    simp only [depthT, T.used, T.k, T.ar]
    split <;> simp_all [depthL]
theorem qsL : ∀ (fuel : Nat) (l : List Int) (t : T), depthT t ≤ fuel → l.length + sizeT t ≤ 100000 → TotP (qcf fuel l t) fun r => r.length ≤ l.length + sizeT t
  | 0, l, t, h, _ => by rw [qom] at h; omega
  | fuel + 1, l, t, h, hN => by
    rw [qcf]
    have hs := qkN t
    have hd := qom t
    refine quR _ l t (by omega) fun l' hl' => ?_
    rw [qvc, Option.bind_some]
    refine (qsw (qcf fuel) 100000 t.used l' (fun x hx l'' hl'' => ?_) (by omega)).mono fun r hr => by omega
    have h1 := qmM hx
    exact qsL fuel l'' x (by omega) hl''
theorem qpz (fuel : Nat) : ∀ (ts : List T) (l : List Int), depthL ts ≤ fuel → l.length + sizeL ts ≤ 100000 → TotP (qbd (fun o => some o) fuel ts l) fun r => r.length ≤ l.length + sizeL ts
  | [], l, _, _ => by
    rw [qbd]
    exact .pure (by simp [sizeL])
  | t :: ts, l, h, hN => by
    simp only [sizeL] at hN
    simp only [depthL] at h
    rw [qbd]
    refine .bind (qsL fuel l t (by omega) (by omega)) fun r hr => (qpz fuel ts r (by omega) (by omega)).mono fun r' hr' => ?_
    simp only [sizeL]
    omega
theorem qng (fuel : Nat) (ts : List T) (h1 : depthL ts ≤ fuel) (h2 : sizeL ts ≤ 100000) : TotP (qcj fuel ts) fun r => r.length ≤ sizeL ts := by
  unfold qcj
  exact (qpz fuel ts [] h1 (by simpa using h2)).mono fun r hr => by simpa using hr
theorem qsF (fuel : Nat) (t : T) (h1 : depthT t ≤ fuel) (h2 : sizeT t ≤ 100000) : TotP (qb0 fuel t) Any := by
  unfold qb0
  exact .bind (qsL fuel [] t h1 (by simpa using h2)) fun _ _ => .pure trivial
theorem qmS {fuel : Nat} (hfu : 21 ≤ fuel) (g : Gl) (h : rightG g = true) : TotP (qcn fuel g) fun r => r.length ≤ 200 := by
  obtain ⟨h1, h2, h3⟩ := qkl (qmy h).2.2.2.2
  unfold qcn
  exact .bind (qng fuel g.ts (by omega) (by omega)) fun _ hr => .pure (by omega)
theorem qmR {fuel : Nat} (hfu : 21 ≤ fuel) (a : At) (h : rightA a = true) : TotP (qbB fuel a) fun r => r.length ≤ 200 := by
  obtain ⟨h1, h2, h3⟩ := qkl (qmF h).2.2
  unfold qbB
  exact .bind (qng fuel a.ts (by omega) (by omega)) fun _ hr => .pure (by omega)
/-! ### declarations -/
theorem ql1 (a : Int) (n : ByteArray) : ∀ l : List S_api_Decl, TotP (qay (some false) a n l) Any
  | [] => ⟨false, by rw [qay], trivial⟩
  | q :: l => by
    rw [qay]
    exact .cond (fun _ => .cond (fun _ => .pure trivial) fun _ => ql1 a n l) fun _ => ql1 a n l
theorem qkE (l : List S_api_Decl) (n : ByteArray) (a : Int) : TotP (qaW l n a) Any := ql1 a n l
theorem qmI (k : Int → Option Int) (hk : ∀ e, TotP (k e) Any) (n : ByteArray) : ∀ (l : List S_api_Decl) (e : Int), TotP (qaK k n l e) Any
  | [], e => by rw [qaK]; exact hk e
  | q :: l, e => by
    rw [qaK]
    exact .cond (fun _ => qmI k hk n l _) fun _ => qmI k hk n l _
theorem qpB (l : List S_api_Decl) (n : ByteArray) (a : Int) : TotP (qc7 l n a) Any := by
  unfold qc7
  exact qmI _ (fun e => .bind (qkE l n a) fun _ _ => .cond (fun _ => .pure trivial) fun _ => .pure trivial) n l 7
theorem qo2 (ds : List S_api_Decl) : ∀ l : List Gl, TotP (qaX (some 0) ds l) Any
  | [] => ⟨0, by rw [qaX], trivial⟩
  | g :: l => by
    rw [qaX]
    exact .cond (fun _ => qo2 ds l) fun _ => .bind (qpB _ _ _) fun _ _ => .cond (fun _ => .pure trivial) fun _ => qo2 ds l
theorem quG (o : Int) : TotP (qdJ o) Any := by
  unfold qdJ
  exact .cond (fun _ => .pure trivial) fun _ => .pure trivial
structure RuleL (x : qU) : Prop where
  k : x.f1_Keep.length ≤ 3
  r : x.f2_Remove.length ≤ 3
  g : x.f3_Guard.length ≤ 6
  b : x.f4_Body.length ≤ 6
theorem heads15 (r : qU) (h : RuleL r) : qcs r = some (r.f1_Keep ++ r.f2_Remove) := by
  have h1 := h.k
  have h2 := h.r
  unfold qcs
  rw [qho (by simp only [List.length_nil]; omega) (by simp only [List.length_nil]; omega), Option.bind_some, List.nil_append, qho (by omega) (by omega)]
  rfl
theorem heads16 (r : qU) (h : RuleL r) : qdt r = some (r.f1_Keep ++ r.f2_Remove) := by
  have h1 := h.k
  have h2 := h.r
  unfold qdt
  rw [qho (by simp only [List.length_nil]; omega) (by simp only [List.length_nil]; omega), Option.bind_some, List.nil_append, qho (by omega) (by omega)]
  rfl
theorem goals15 (r : qU) (h : RuleL r) : qcX r = some (r.f3_Guard ++ r.f4_Body) := by
  have h1 := h.g
  have h2 := h.b
  unfold qcX
  rw [qho (by simp only [List.length_nil]; omega) (by simp only [List.length_nil]; omega), Option.bind_some, List.nil_append, qho (by omega) (by omega)]
  rfl
structure RuleR (r : qU) : Prop where
  h : ∀ a ∈ r.f1_Keep ++ r.f2_Remove, rightA a = true
  g : ∀ a ∈ r.f3_Guard ++ r.f4_Body, rightG a = true
  n : 1 ≤ (r.f1_Keep ++ r.f2_Remove).length ∧ (r.f1_Keep ++ r.f2_Remove).length ≤ 4
def Bnd (l : List T) (d s : Nat) : Prop := depthL l ≤ d ∧ sizeL l ≤ s ∧ l.length ≤ s
theorem qqE {l m : List T} {d s u : Nat} (h : Bnd l d s) (h2 : Bnd m d u) : Bnd (l ++ m) d (s + u) := by
  obtain ⟨a, b, c⟩ := h
  obtain ⟨a2, b2, c2⟩ := h2
  refine ⟨by rw [qlM]; omega, by rw [qj6]; omega, by rw [List.length_append]; omega⟩
theorem qvx {a : At} (h : rightA a = true) : Bnd a.ts 20 200 := by
  obtain ⟨h1, h2, h3⟩ := qmF h
  obtain ⟨g1, g2, g3⟩ := qkl h3
  exact ⟨g3, g2, by omega⟩
theorem qvZ {a : Gl} (h : rightG a = true) : Bnd a.ts 20 200 := by
  obtain ⟨_, _, h1, h2, h3⟩ := qmy h
  obtain ⟨g1, g2, g3⟩ := qkl h3
  exact ⟨g3, g2, by omega⟩
theorem qpA {Q : List Int → Prop} (k : List T → Option (List Int)) : ∀ (l : List At) (acc : List T) (s : Nat), (∀ a ∈ l, rightA a = true) → Bnd acc 20 s → s + 200 * l.length ≤ 10000 → (∀ acc', Bnd acc' 20 (s + 200 * l.length) → TotP (k acc') Q) → TotP (qbN k l acc) Q
  | [], acc, s, _, hb, _, hk => by
    rw [qbN]
    exact hk acc (by simpa using hb)
  | a :: l, acc, s, hr, hb, hs, hk => by
    have h1 := qvx (hr a (by simp))
    have h2 := hb.2.2
    have h3 := h1.2.2
    rw [qbN, qho (by simp only [List.length_cons] at hs; omega) (by simp only [List.length_cons] at hs; omega), Option.bind_some]
    refine qpA k l _ (s + 200) (fun x hx => hr x (by simp [hx])) (qqE hb h1) (by simp only [List.length_cons] at hs; omega) fun acc' h' => hk acc' ?_
    have e : s + 200 + 200 * l.length = s + 200 * (a :: l).length := by simp only [List.length_cons]; omega
    rwa [e] at h'
theorem qpv {Q : List Int → Prop} (k : List T → Option (List Int)) : ∀ (l : List Gl) (acc : List T) (s : Nat), (∀ a ∈ l, rightG a = true) → Bnd acc 20 s → s + 200 * l.length ≤ 10000 → (∀ acc', Bnd acc' 20 (s + 200 * l.length) → TotP (k acc') Q) → TotP (qbI k l acc) Q
  | [], acc, s, _, hb, _, hk => by
    rw [qbI]
    exact hk acc (by simpa using hb)
  | a :: l, acc, s, hr, hb, hs, hk => by
    have h1 := qvZ (hr a (by simp))
    have h2 := hb.2.2
    have h3 := h1.2.2
    rw [qbI, qho (by simp only [List.length_cons] at hs; omega) (by simp only [List.length_cons] at hs; omega), Option.bind_some]
    refine qpv k l _ (s + 200) (fun x hx => hr x (by simp [hx])) (qqE hb h1) (by simp only [List.length_cons] at hs; omega) fun acc' h' => hk acc' ?_
    have e : s + 200 + 200 * l.length = s + 200 * (a :: l).length := by simp only [List.length_cons]; omega
    rwa [e] at h'
theorem qnW {Q : List Int → Prop} (k : List T → Option (List Int)) : ∀ (l : List At) (acc : List T) (s : Nat), (∀ a ∈ l, rightA a = true) → Bnd acc 20 s → s + 200 * l.length ≤ 10000 → (∀ acc', Bnd acc' 20 (s + 200 * l.length) → TotP (k acc') Q) → TotP (qaR k l acc) Q
  | [], acc, s, _, hb, _, hk => by
    rw [qaR]
    exact hk acc (by simpa using hb)
  | a :: l, acc, s, hr, hb, hs, hk => by
    have h1 := qvx (hr a (by simp))
    have h2 := hb.2.2
    have h3 := h1.2.2
    rw [qaR, qho (by simp only [List.length_cons] at hs; omega) (by simp only [List.length_cons] at hs; omega), Option.bind_some]
    refine qnW k l _ (s + 200) (fun x hx => hr x (by simp [hx])) (qqE hb h1) (by simp only [List.length_cons] at hs; omega) fun acc' h' => hk acc' ?_
    have e : s + 200 + 200 * l.length = s + 200 * (a :: l).length := by simp only [List.length_cons]; omega
    rwa [e] at h'
theorem qsy : Bnd [] 20 0 := ⟨by simp [depthL], by simp [sizeL], by simp⟩
theorem qtJ {fuel : Nat} (hfu : 21 ≤ fuel) (r : qU) (hl : RuleL r) (hr : RuleR r) : TotP (qeI fuel r) Any := by
  have h1 := hl.k
  have h2 := hl.r
  have h3 := hl.g
  have h4 := hl.b
  unfold qeI
  rw [heads15 r hl, Option.bind_some, goals15 r hl]
  refine qpA _ _ _ 0 hr.h qsy (by rw [List.length_append]; omega) fun acc ha => ?_
  rw [Option.bind_some]
  refine qpv _ _ _ _ hr.g ha (by rw [List.length_append, List.length_append]; omega) fun acc' hb => ?_
  have := hb.2.1
  rw [List.length_append, List.length_append] at this
  exact .bind (qng fuel acc' (by have := hb.1; omega) (by omega)) fun _ _ => .pure trivial
theorem qrV {fuel : Nat} (hfu : 21 ≤ fuel) (r : qU) (hl : RuleL r) (hr : RuleR r) : TotP (qdB fuel r) Any := by
  have h1 := hl.k
  have h2 := hl.r
  unfold qdB
  rw [heads15 r hl, Option.bind_some]
  refine qnW _ _ _ 0 hr.h qsy (by rw [List.length_append]; omega) fun acc ha => ?_
  have := ha.2.1
  rw [List.length_append] at this
  exact .bind (qng fuel acc (by have := ha.1; omega) (by omega)) fun _ _ => .pure trivial
theorem quv (n : Int) : ∀ l : List Int, TotP (qb8 (some false) n l) Any
  | [] => ⟨false, by rw [qb8], trivial⟩
  | q :: l => by
    rw [qb8]
    exact .cond (fun _ => .pure trivial) fun _ => quv n l
theorem qsc (k : Option Int) (hk : TotP k Any) (m : List Int) : ∀ l : List Int, TotP (qa2 k m l) Any
  | [] => by rw [qa2]; exact hk
  | q :: l => by
    rw [qa2]
    exact .bind (quv q m) fun _ _ => .cond (fun _ => .pure trivial) fun _ => qsc k hk m l
theorem qsM {fuel : Nat} (hfu : 21 ≤ fuel) (m : List Int) : ∀ l : List Gl, (∀ g ∈ l, rightG g = true) → TotP (qa1 (some 0) fuel m l) Any
  | [], _ => ⟨0, by rw [qa1], trivial⟩
  | q :: l, h => by
    rw [qa1]
    exact .bind (qmS hfu q (h q (by simp))) fun _ _ => qsc _ (qsM hfu m l fun x hx => h x (by simp [hx])) m _
theorem qtd (k : Option Int) (hk : TotP k Any) : ∀ l : List Gl, TotP (qa5 k l) Any
  | [] => by rw [qa5]; exact hk
  | q :: l => by
    rw [qa5]
    exact .bind (quG _) fun _ _ => .cond (fun _ => .pure trivial) fun _ => qtd k hk l
theorem qqj (k : Option Int) (hk : TotP k Any) : ∀ l : List Gl, TotP (qaI k l) Any
  | [] => by rw [qaI]; exact hk
  | q :: l => by
    rw [qaI]
    exact .bind (quG _) fun _ _ => .cond (fun _ => .cond (fun _ => .pure trivial) fun _ => qqj k hk l) fun _ => qqj k hk l
theorem qtt (k : Option Int) (hk : TotP k Any) (ds : List S_api_Decl) : ∀ l : List At, TotP (qa6 k ds l) Any
  | [] => by rw [qa6]; exact hk
  | q :: l => by
    rw [qa6]
    exact .bind (qpB _ _ _) fun _ _ => .cond (fun _ => .pure trivial) fun _ => qtt k hk ds l
theorem qvG {fuel : Nat} (hfu : 21 ≤ fuel) (ds : List S_api_Decl) (r : qU) (hl : RuleL r) (hr : RuleR r) : TotP (qc8 fuel ds r) Any := by
  unfold qc8
  rw [heads15 r hl, Option.bind_some, goals15 r hl]
  refine qtt _ ?_ ds _
  rw [Option.bind_some]
  unfold qfc
  exact .bind (qo2 ds _) fun _ _ => .cond (fun _ => .pure trivial) fun _ => qqj _ (qtd _ (.bind (qrV hfu r hl hr) fun _ _ => qsM hfu _ _ fun g hg => hr.g g (List.mem_append_left _ hg)) _) _
/-! ### rules, programs -/
abbrev T0 (x : Option Int) (Q : Prop) : Prop := TotP x fun e => e = 0 → Q
theorem T0.err {n : Int} {Q : Prop} (h : n ≠ 0) : T0 (some n) Q := ⟨n, rfl, fun e => absurd e h⟩
theorem qrB {Q : Prop} (k : Option Int) (hk : T0 k Q) : ∀ (l : List Int) (i : Nat), T0 (qaP k l i) Q
  | [], i => by rw [qaP]; exact hk
  | q :: l, i => by
    rw [qaP]
    exact .cond (fun _ => T0.err (by decide)) fun _ => qrB k hk l _
theorem qq4 {Q : Prop} (k : Option Int) : ∀ l : List Gl, (∀ g ∈ l, wtL g.ts ≤ 1000000000) → ((∀ g ∈ l, rightG g = true) → T0 k Q) → T0 (qaO k l) Q
  | [], _, hk => by rw [qaO]; exact hk (by simp)
  | q :: l, hw, hk => by
    rw [qaO, qmh _ (hw q (by simp)), Option.bind_some]
    refine .cond (fun _ => T0.err (by decide)) fun hb => qq4 k l (fun x hx => hw x (by simp [hx])) fun h => hk fun x hx => ?_
    rcases List.mem_cons.1 hx with rfl | hx
    · simpa using hb
    · exact h x hx
theorem qqL {Q : Prop} (k : Option Int) : ∀ l : List At, (∀ g ∈ l, wtL g.ts ≤ 1000000000) → ((∀ g ∈ l, rightA g = true) → T0 k Q) → T0 (qaN k l) Q
  | [], _, hk => by rw [qaN]; exact hk (by simp)
  | q :: l, hw, hk => by
    rw [qaN, qkU _ (hw q (by simp)), Option.bind_some]
    refine .cond (fun _ => T0.err (by decide)) fun hb => qqL k l (fun x hx => hw x (by simp [hx])) fun h => hk fun x hx => ?_
    rcases List.mem_cons.1 hx with rfl | hx
    · simpa using hb
    · exact h x hx
structure RuleM (r : qU) : Prop where
  l : RuleL r
  w : RuleW r
  n : r.f0_Name.size ≤ 9223372036854775807
theorem qu0 {fuel : Nat} (hfu : 21 ≤ fuel) (ds : List S_api_Decl) (r : qU) (h : RuleM r) : T0 (qdl fuel ds r) (RuleR r) := by
  unfold qdl
  rw [heads15 r h.l, goals15 r h.l, Option.bind_some, Option.bind_some]
  refine .cond (fun _ => T0.err (by decide)) fun h0 => .cond (fun _ => T0.err (by decide)) fun h4 => .cond (fun _ => T0.err (by decide)) fun _ => .cond (fun _ => T0.err (by decide)) fun _ => ?_
  have h4 := of_decide_eq_false h4
  have h0 : (((r.f1_Keep ++ r.f2_Remove).length : Nat) : Int) ≠ 0 := by simpa using h0
  refine qqL _ _ (fun g hg => ?_) fun hA => qq4 _ _ (fun g hg => ?_) fun hG => ?_
  · rcases List.mem_append.1 hg with hg | hg
    · exact h.w.k g hg
    · exact h.w.r g hg
  · rcases List.mem_append.1 hg with hg | hg
    · exact h.w.g g hg
    · exact h.w.b g hg
  · have hr : RuleR r := ⟨hA, hG, by omega, by omega⟩
    have hm := qvG hfu ds r h.l hr
    refine .bind (qtJ hfu r h.l hr) fun v _ => qrB _ ?_ _ _
    refine .cond (fun _ => T0.err (by decide)) fun _ => .cond (fun _ => ?_) fun _ => .bind hm fun _ _ => .pure fun _ => hr
    rw [qm0 _ h.n, Option.bind_some]
    exact .cond (fun _ => T0.err (by decide)) fun _ => .bind hm fun _ _ => .pure fun _ => hr
abbrev T2 (x : Option (Int × Int)) (Q : Prop) : Prop := TotP x fun e => e.2 = 0 → Q
theorem T2.err {i n : Int} {Q : Prop} (h : n ≠ 0) : T2 (some (i, n)) Q := ⟨_, rfl, fun e => absurd e h⟩
theorem qra {fuel : Nat} (hfu : 21 ≤ fuel) (p : qI) : ∀ (l : List qU) (i : Nat), (∀ r ∈ l, RuleM r) → T2 (qbv (some (0, 0)) fuel p l i) (∀ r ∈ l, RuleR r)
  | [], i, _ => ⟨(0, 0), by rw [qbv], fun _ => by simp⟩
  | r :: l, i, h => by
    rw [qbv]
    refine .bind (qu0 hfu p.f0_Decls r (h r (by simp))) fun e he => .cond (fun hn => T2.err (by simpa using hn)) fun hn => (qra hfu p l (i + 1) fun x hx => h x (by simp [hx])).mono fun b hb h0 x hx => ?_
    rcases List.mem_cons.1 hx with rfl | hx
    · exact he (by simpa using hn)
    · exact hb h0 x hx
theorem qq3 {Q : Prop} (k : Option (Int × Int)) (hk : T2 k Q) (p : qI) (hn : ∀ d ∈ p.f0_Decls, d.f0_Name.size ≤ 9223372036854775807) : ∀ (l pre : List S_api_Decl), p.f0_Decls = pre ++ l → T2 (qbj k p l pre.length) Q
  | [], pre, _ => by rw [qbj]; exact hk
  | d :: l, pre, hp => by
    rw [qbj, qm0 _ (hn d (by rw [hp]; simp)), Option.bind_some]
    refine .cond (fun _ => T2.err (by decide)) fun _ => .cond (fun _ => T2.err (by decide)) fun _ => .cond (fun _ => T2.err (by decide)) fun _ => ?_
    rw [subO, if_pos ⟨Int.le_refl _, by omega, by rw [hp, List.length_append]; omega⟩, Option.bind_some]
    refine .bind (qkE _ _ _) fun _ _ => .cond (fun _ => T2.err (by decide)) fun _ => ?_
    have := qq3 k hk p hn l (pre ++ [d]) (by rw [hp]; simp)
    rwa [List.length_append, List.length_singleton] at this
structure ProgM (p : qI) : Prop where
  d : ∀ d ∈ p.f0_Decls, d.f0_Name.size ≤ 9223372036854775807
  r : ∀ r ∈ p.f1_Rules, RuleM r
  n : p.f1_Rules.length ≤ 8
theorem qst {fuel : Nat} (hfu : 21 ≤ fuel) (p : qI) (h : ProgM p) : T2 (qds fuel p) (∀ r ∈ p.f1_Rules, RuleR r) := by
  unfold qds
  refine .cond (fun _ => T2.err (by decide)) fun _ => ?_
  exact qq3 _ (.cond (fun _ => T2.err (by decide)) fun _ => qra hfu p p.f1_Rules 0 h.r) p h.d p.f0_Decls [] rfl
/-! ### what is sound has an encoding -/
def Ok (r : Option (List Int)) : Prop := ∃ e, r = some e
theorem Ok.cat {r s : Option (List Int)} (h1 : Ok r) (h2 : Ok s) : Ok (catO r s) := by
  obtain ⟨a, rfl⟩ := h1
  obtain ⟨b, rfl⟩ := h2
  exact ⟨_, rfl⟩
theorem Ok.num {lo hi n : Int} (h1 : lo ≤ n) (h2 : n ≤ hi) : Ok (eNum lo hi n) := ⟨_, qlE h1 h2⟩
theorem Ok.all {α : Type} {e : α → Option (List Int)} : ∀ {l : List α}, (∀ x ∈ l, Ok (e x)) → Ok (eCat e l)
  | [], _ => ⟨_, rfl⟩
  | x :: l, h => (h x (by simp)).cat (Ok.all fun y hy => h y (by simp [hy]))
theorem Ok.list {α : Type} {e : α → Option (List Int)} {l : List α} {most : Int} (h1 : (l.length : Int) ≤ most) (h : ∀ x ∈ l, Ok (e x)) : Ok (eList most e l) := (Ok.num (by omega) h1).cat (Ok.all h)
theorem Ok.atom {a : At} (h : rightA a = true) : Ok (eAtom a) := ⟨_, if_pos h⟩
theorem Ok.goal {a : Gl} (h : rightG a = true) : Ok (eGoal a) := ⟨_, if_pos h⟩
theorem Ok.term {a : T} (h : rightT a = true) : Ok (eT a) := ⟨_, if_pos h⟩
theorem qnY {α : Type} (pre l : List α) (h : 0 < pre.length) (h2 : pre.length ≤ 10000000) : ∃ q, getI (pre ++ l) (wr ((pre.length : Int) - 1)) = some q := by
  rw [qoP (by omega)]
  have e : ((pre.length : Int) - 1) = ((pre.length - 1 : Nat) : Int) := by omega
  rw [e, qjQ]
  exact ⟨_, List.getElem?_eq_getElem (by rw [List.length_append]; omega)⟩
/-! ### stores -/
theorem qtr (l0 : List (Int × At)) (hw : ∀ x ∈ l0, wtL x.2.ts ≤ 1000000000) (hn : l0.length ≤ 10000000) : ∀ (l pre : List (Int × At)), l0 = pre ++ l → TT (qaE (some true) l0 l pre.length) (∀ x ∈ l, 1 ≤ x.1 ∧ rightA x.2 = true)
  | [], pre, _ => by rw [qaE]; exact TT.yes fun _ => by simp
  | x :: l, pre, hp => by
    have hx : x ∈ l0 := by rw [hp]; simp
    have ih := qtr l0 hw hn l (pre ++ [x]) (by rw [hp]; simp)
    rw [List.length_append, List.length_singleton] at ih
    rw [qaE, qkU _ (hw x hx)]
    simp only [Option.bind_some]
    refine TT.c1 fun h1 => ?_
    have h1 := of_decide_eq_false h1
    have fin : TT (bif !rightA x.2 then some false else qaE (some true) l0 l (pre.length + 1)) (∀ y ∈ x :: l, 1 ≤ y.1 ∧ rightA y.2 = true) := TT.c1 fun h2 => ih.mono fun h y hy => by
      rcases List.mem_cons.1 hy with rfl | hy
      · exact ⟨by omega, by simpa using h2⟩
      · exact h y hy
    refine .cond (fun hpos => ?_) fun _ => fin
    have hlen : pre.length ≤ 10000000 := by rw [hp, List.length_append] at hn; omega
    obtain ⟨q, hq⟩ := qnY pre (x :: l) (by have := of_decide_eq_true hpos; omega) hlen
    rw [hp, hq, ← hp, Option.bind_some]
    exact TT.c1 fun _ => fin
theorem qvm (l : List (Int × At)) (hw : ∀ x ∈ l, wtL x.2.ts ≤ 1000000000) : TT (qei l) (l.length ≤ 500 ∧ ∀ x ∈ l, 1 ≤ x.1 ∧ rightA x.2 = true) := by
  unfold qei
  refine TT.c1 fun h => ?_
  have h := of_decide_eq_false h
  exact (qtr l hw (by omega) l [] rfl).mono fun h2 => ⟨by omega, h2⟩
/-! ### bindings -/
theorem qpg (v : Int) : ∀ l : List (Int × T), TotP (qa9 (some (T.mk 0 0 ⟨#[]⟩ [], false)) v l) Any
  | [] => ⟨_, by rw [qa9], trivial⟩
  | q :: l => by
    rw [qa9]
    exact .cond (fun _ => .pure trivial) fun _ => qpg v l
theorem qrh (b : List (Int × T)) (v : Int) : TotP (qd8 b v) Any := qpg v b
theorem qqX (k : Option Bool) (hk : TotP k Any) (b : List (Int × T)) : ∀ l : List Int, TotP (qbC k b l) Any
  | [] => by rw [qbC]; exact hk
  | q :: l => by
    rw [qbC]
    exact .bind (qrh b q) fun _ _ => .cond (fun _ => .pure trivial) fun _ => qqX k hk b l
theorem qut {fuel : Nat} (hfu : 21 ≤ fuel) {t : T} (h : rightT t = true) : TotP (qb0 fuel t) Any := by
  obtain ⟨h1, h2, h3⟩ := qpa h
  exact qsF fuel t (by omega) (by omega)
theorem qq8 {fuel : Nat} (hfu : 21 ≤ fuel) (b : List (Int × T)) : ∀ l : List (Int × T), (∀ x ∈ l, rightT x.2 = true) → TotP (qbt (some true) b fuel l) Any
  | [], _ => ⟨_, by rw [qbt], trivial⟩
  | q :: l, h => by
    rw [qbt]
    exact .bind (qut hfu (h q (by simp))) fun _ _ => qqX _ (qq8 hfu b l fun x hx => h x (by simp [hx])) b _
theorem qsR (k : Option Bool) (b : List (Int × T)) (hw : ∀ x ∈ b, wt x.2 ≤ 1000000000) (hn : b.length ≤ 10000000) : ∀ (l pre : List (Int × T)), b = pre ++ l → ((∀ x ∈ l, (0 ≤ x.1 ∧ x.1 ≤ 1048576) ∧ rightT x.2 = true) → TotP k Any) → TT (qaF k b l pre.length) (∀ x ∈ l, (0 ≤ x.1 ∧ x.1 ≤ 1048576) ∧ rightT x.2 = true)
  | [], pre, _, hk => by rw [qaF]; exact (hk (by simp)).mono fun _ _ _ => by simp
  | x :: l, pre, hp, hk => by
    have hx : x ∈ b := by rw [hp]; simp
    rw [qaF, qnX _ (hw x hx)]
    simp only [Option.bind_some]
    refine TT.c1 fun h1 => TT.c1 fun h2 => ?_
    have h1 := of_decide_eq_false h1
    have h2 := of_decide_eq_false h2
    have fin : TT (bif !rightT x.2 then some false else qaF k b l (pre.length + 1)) (∀ y ∈ x :: l, (0 ≤ y.1 ∧ y.1 ≤ 1048576) ∧ rightT y.2 = true) := TT.c1 fun h3 => by
      have h3 : rightT x.2 = true := by simpa using h3
      have ih := qsR k b hw hn l (pre ++ [x]) (by rw [hp]; simp) fun h => hk fun y hy => by
        rcases List.mem_cons.1 hy with rfl | hy
        · exact ⟨by omega, h3⟩
        · exact h y hy
      rw [List.length_append, List.length_singleton] at ih
      exact ih.mono fun h y hy => by
        rcases List.mem_cons.1 hy with rfl | hy
        · exact ⟨by omega, h3⟩
        · exact h y hy
    refine .cond (fun hpos => ?_) fun _ => fin
    have hlen : pre.length ≤ 10000000 := by rw [hp, List.length_append] at hn; omega
    obtain ⟨q, hq⟩ := qnY pre (x :: l) (by have := of_decide_eq_true hpos; omega) hlen
    rw [hp, hq, ← hp, Option.bind_some]
    exact TT.c1 fun _ => fin
theorem qrQ {fuel : Nat} (hfu : 21 ≤ fuel) (b : List (Int × T)) (hw : ∀ x ∈ b, wt x.2 ≤ 1000000000) (hn : b.length ≤ 10000000) : TT (qer fuel b) (∀ x ∈ b, (0 ≤ x.1 ∧ x.1 ≤ 1048576) ∧ rightT x.2 = true) := by
  unfold qer
  refine qsR _ b hw hn b [] rfl fun h => ?_
  unfold qff
  exact .bind (qq8 hfu b b fun x hx => (h x hx).2) fun _ _ => .pure trivial
/-! ### histories -/
theorem qtl (n : Int) : ∀ l : List Int, TotP (qbY (some false) n l) Any
  | [] => ⟨_, by rw [qbY], trivial⟩
  | q :: l => by
    rw [qbY]
    exact .cond (fun _ => .pure trivial) fun _ => qtl n l
theorem qry (f : qZ) : ∀ (l pre : List Int), f.f1_IDs = pre ++ l → TotP (qbD (some true) f l pre.length) Any
  | [], pre, _ => ⟨_, by rw [qbD], trivial⟩
  | q :: l, pre, hp => by
    have ih := qry f l (pre ++ [q]) (by rw [hp]; simp)
    rw [List.length_append, List.length_singleton] at ih
    rw [qbD, subO, if_pos ⟨Int.le_refl _, by omega, by rw [hp, List.length_append]; omega⟩, Option.bind_some]
    exact .cond (fun _ => .pure trivial) fun _ => .bind (qtl _ _) fun _ _ => .cond (fun _ => .pure trivial) fun _ => ih
theorem quM (f : qZ) : TT (qep f) ((0 ≤ f.f0_Rule ∧ f.f0_Rule ≤ 40) ∧ f.f1_IDs.length ≤ 4) := by
  unfold qep
  refine TT.c1 fun h1 => TT.c1 fun h2 => TT.c1 fun _ => TT.c1 fun h4 => ?_
  have h1 := of_decide_eq_false h1
  have h2 := of_decide_eq_false h2
  have h4 := of_decide_eq_false h4
  exact (qry f f.f1_IDs [] rfl).mono fun _ _ _ => ⟨by omega, by omega⟩
theorem qsZ (a b : Int) : TotP (qc9 a b) Any := by
  unfold qc9
  exact .cond (fun _ => .pure trivial) fun _ => .cond (fun _ => .pure trivial) fun _ => .pure trivial
theorem qqx (b : qZ) : ∀ (l : List Int) (c : Int) (i : Nat), TotP (qa3 (fun c => some c) b l c i) Any
  | [], c, i => ⟨_, by rw [qa3], trivial⟩
  | q :: l, c, i => by
    rw [qa3]
    refine .cond (fun h => .cond (fun _ => ?_) fun _ => .pure trivial) fun _ => .pure trivial
    have h := of_decide_eq_true h
    rw [qjQ, List.getElem?_eq_getElem (by omega), Option.bind_some]
    exact .bind (qsZ _ _) fun _ _ => qqx b l _ _
theorem qvo (a b : qZ) : TotP (qdN a b) Any := by
  unfold qdN qd9
  exact .bind (qsZ _ _) fun _ _ => .cond (fun _ => .bind (qsZ _ _) fun _ _ => qqx b _ _ _) fun _ => qqx b _ _ _
theorem qsI (l0 : List qZ) (hn : l0.length ≤ 10000000) : ∀ (l pre : List qZ), l0 = pre ++ l → TT (qaG (some true) l0 l pre.length) (∀ f ∈ l, (0 ≤ f.f0_Rule ∧ f.f0_Rule ≤ 40) ∧ f.f1_IDs.length ≤ 4)
  | [], pre, _ => by rw [qaG]; exact TT.yes fun _ => by simp
  | x :: l, pre, hp => by
    have ih := qsI l0 hn l (pre ++ [x]) (by rw [hp]; simp)
    rw [List.length_append, List.length_singleton] at ih
    rw [qaG]
    refine TT.bind (quM x) rfl fun hx => ?_
    show TT (bif !true then some false else _) _
    refine TT.c1 fun _ => ?_
    have fin : TT (qaG (some true) l0 l (pre.length + 1)) (∀ f ∈ x :: l, (0 ≤ f.f0_Rule ∧ f.f0_Rule ≤ 40) ∧ f.f1_IDs.length ≤ 4) := ih.mono fun h y hy => by
      rcases List.mem_cons.1 hy with rfl | hy
      · exact hx
      · exact h y hy
    refine .cond (fun hpos => ?_) fun _ => fin
    have hlen : pre.length ≤ 10000000 := by rw [hp, List.length_append] at hn; omega
    obtain ⟨q, hq⟩ := qnY pre (x :: l) (by have := of_decide_eq_true hpos; omega) hlen
    rw [hp, hq, ← hp, Option.bind_some]
    exact TotP.bind (qvo _ _) fun _ _ => TT.c1 fun _ => fin
theorem qs1 (l : List qZ) : TT (qen l) (l.length ≤ 5000 ∧ ∀ f ∈ l, (0 ≤ f.f0_Rule ∧ f.f0_Rule ≤ 40) ∧ f.f1_IDs.length ≤ 4) := by
  unfold qen
  refine TT.c1 fun h => ?_
  have h := of_decide_eq_false h
  exact (qsI l (by omega) l [] rfl).mono fun h2 => ⟨by omega, h2⟩
/-! ### what is stored -/
theorem qrf (b : List (Int × T)) (fresh : Int) : ∀ l : List Int, TotP (qbM (some true) b fresh l) Any
  | [] => ⟨_, by rw [qbM], trivial⟩
  | q :: l => by
    rw [qbM]
    exact .cond (fun _ => .pure trivial) fun _ => .bind (qrh b q) fun _ _ => .cond (fun _ => .pure trivial) fun _ => qrf b fresh l
theorem find19 (id : Int) : ∀ l : List (Int × At), TotP (qbH (some ((⟨⟨#[]⟩, []⟩ : At), false)) id l) fun r => r.2 = true → ∃ x ∈ l, x.1 = id
  | [] => ⟨_, by rw [qbH], fun h => by simp at h⟩
  | q :: l => by
    rw [qbH]
    refine .cond (fun h => .pure fun _ => ⟨q, by simp, by simpa using h⟩) fun _ => (find19 id l).mono fun r hr h => ?_
    obtain ⟨x, hx, he⟩ := hr h
    exact ⟨x, by simp [hx], he⟩
theorem qpb {Q : Prop} (k : Option Bool) (hk : TT k Q) (st : List (Int × At)) : ∀ l : List Int, TT (qbf k st l) ((∀ id ∈ l, ∃ x ∈ st, x.1 = id) ∧ Q)
  | [] => by rw [qbf]; exact hk.mono fun h => ⟨by simp, h⟩
  | q :: l => by
    rw [qbf]
    unfold qfw
    refine TotP.bind (find19 q st) fun r hr => TT.c1 fun hb => (qpb k hk st l).mono fun h => ⟨fun id hid => ?_, h.2⟩
    rcases List.mem_cons.1 hid with rfl | hid
    · exact hr (by simpa using hb)
    · exact h.1 id hid
theorem qpW (st : List (Int × At)) (p : qI) (hp : ∀ r ∈ p.f1_Rules, RuleL r) : ∀ l : List qZ, TT (qbc (some true) st p l) (∀ f ∈ l, ∀ id ∈ f.f1_IDs, ∃ x ∈ st, x.1 = id)
  | [] => by rw [qbc]; exact TT.yes fun _ => by simp
  | f :: l => by
    rw [qbc]
    refine TT.c1 fun h1 => TT.c1 fun h2 => ?_
    have h1 := of_decide_eq_false h1
    have h2 := of_decide_eq_false h2
    obtain ⟨n, hn⟩ := Int.eq_ofNat_of_zero_le (by omega : 0 ≤ f.f0_Rule)
    have hlt : n < p.f1_Rules.length := by omega
    rw [hn, qjQ, List.getElem?_eq_getElem hlt, Option.bind_some]
    unfold qdP
    rw [Option.bind_some, heads16 _ (hp _ (List.getElem_mem hlt))]
    refine TT.c1 fun _ => ?_
    rw [Option.bind_some]
    refine TT.c1 fun _ => (qpb _ (qpW st p hp l) st f.f1_IDs).mono fun h g hg => ?_
    rcases List.mem_cons.1 hg with rfl | hg
    · exact h.1
    · exact h.2 g hg
theorem qpe {Q : Prop} {fuel : Nat} (hfu : 21 ≤ fuel) (k : Option Bool) (hk : TT k Q) (b : List (Int × T)) (fresh : Int) : ∀ l : List (Int × T), (∀ x ∈ l, rightT x.2 = true) → TT (qbb k b fresh fuel l) Q
  | [], _ => by rw [qbb]; exact hk
  | q :: l, h => by
    rw [qbb]
    unfold qcC
    exact TT.c1 fun _ => TotP.bind (qut hfu (h q (by simp))) fun _ _ => TotP.bind (qrf b fresh _) fun _ _ => TT.c1 fun _ => qpe hfu k hk b fresh l fun x hx => h x (by simp [hx])
theorem qpr {Q : Prop} {fuel : Nat} (hfu : 21 ≤ fuel) (k : Option Bool) (hk : TT k Q) (b : List (Int × T)) (fresh next : Int) (p : qI) : ∀ l : List (Int × At), (∀ x ∈ l, rightA x.2 = true) → TT (qba k b fresh fuel next p l) ((∀ x ∈ l, x.1 < next) ∧ Q)
  | [], _ => by rw [qba]; exact hk.mono fun h => ⟨by simp, h⟩
  | q :: l, h => by
    rw [qba]
    unfold qcC
    refine TT.c1 fun h1 => TotP.bind (qkE _ _ _) fun _ _ => TT.c1 fun _ => TotP.bind (qmR hfu _ (h q (by simp))) fun _ _ => TotP.bind (qrf b fresh _) fun _ _ => TT.c1 fun _ => (qpr hfu k hk b fresh next p l fun x hx => h x (by simp [hx])).mono fun g => ⟨fun x hx => ?_, g.2⟩
    have h1 := of_decide_eq_false h1
    rcases List.mem_cons.1 hx with rfl | hx
    · omega
    · exact g.1 x hx
structure StoredR (st : List (Int × At)) (bs : List (Int × T)) (fs : List qZ) (next fresh : Int) : Prop where
  l : st.length ≤ 500 ∧ ∀ x ∈ st, 1 ≤ x.1 ∧ rightA x.2 = true
  lt : ∀ x ∈ st, x.1 < next
  b : ∀ x ∈ bs, (0 ≤ x.1 ∧ x.1 ≤ 1048576) ∧ rightT x.2 = true
  h : fs.length ≤ 5000 ∧ ∀ f ∈ fs, (0 ≤ f.f0_Rule ∧ f.f0_Rule ≤ 40) ∧ f.f1_IDs.length ≤ 4
  id : ∀ f ∈ fs, ∀ id ∈ f.f1_IDs, ∃ x ∈ st, x.1 = id
  n : 1 ≤ next ∧ next ≤ 2147483648
  f : 0 ≤ fresh ∧ fresh ≤ 1048576
theorem quh {fuel : Nat} (hfu : 21 ≤ fuel) (p : qI) (hp : ∀ r ∈ p.f1_Rules, RuleL r) (l : List (Int × At)) (b : List (Int × T)) (h : List qZ) (next fresh : Int) (hl : ∀ x ∈ l, wtL x.2.ts ≤ 1000000000) (hb : ∀ x ∈ b, wt x.2 ≤ 1000000000) (hn : b.length ≤ 10000000) : TT (qd7 fuel p l b h next fresh) (StoredR l b h next fresh) := by
  unfold qd7
  refine TT.bind (qvm l hl) rfl fun h1 => ?_
  show TT (bif !true then some false else _) _
  refine TT.c1 fun _ => TT.bind (qrQ hfu b hb hn) rfl fun h2 => ?_
  show TT (bif !true then some false else _) _
  refine TT.c1 fun _ => TT.bind (qs1 h) rfl fun h3 => ?_
  show TT (bif !true then some false else _) _
  refine TT.c1 fun _ => TT.c1 fun n1 => TT.c1 fun n2 => TT.c1 fun n3 => TT.c1 fun n4 => ?_
  have n1 := of_decide_eq_false n1
  have n2 := of_decide_eq_false n2
  have n3 := of_decide_eq_false n3
  have n4 := of_decide_eq_false n4
  exact (qpr hfu _ (qpe hfu _ (qpW l p hp h) b fresh b fun x hx => (h2 x hx).2) b fresh next p l fun x hx => (h1.2 x hx).2).mono fun g => ⟨h1, g.1, h2, h3, g.2, by omega, by omega⟩
/-! ### occurrences -/
theorem quD {Q : List qc5 → Prop} (k : List qc5 → Option (List qc5)) (i : Nat) (q : qU) : ∀ (n : Nat) (out : List qc5), out.length + n ≤ 10000000 → (∀ out', out'.length = out.length + n → TotP (k out') Q) → TotP (qb3 k i q n out) Q
  | 0, out, _, hk => by rw [qb3]; exact hk out (by simp)
  | n + 1, out, hl, hk => by
    rw [qb3, qho (by simp only [List.length_cons, List.length_nil]; omega) (by simp only [List.length_cons, List.length_nil]; omega), Option.bind_some]
    exact quD k i q n _ (by simp only [List.length_append, List.length_cons, List.length_nil]; omega) fun out' h => hk out' (by rw [h]; simp only [List.length_append, List.length_cons, List.length_nil]; omega)
theorem quA : ∀ (l : List qU) (out : List qc5) (i : Nat), out.length + 4 * l.length ≤ 10000000 → (∀ r ∈ l, RuleR r) → TotP (qbT (fun o => some o) l out i) fun r => r.length ≤ out.length + 4 * l.length
  | [], out, i, _, _ => ⟨out, by rw [qbT], by simp⟩
  | q :: l, out, i, hl, hr => by
    have h := (hr q (by simp)).n
    rw [List.length_append] at h
    simp only [List.length_cons] at hl ⊢
    rw [qbT]
    have e : downO (wr ((wr ((q.f1_Keep.length : Int) + (q.f2_Remove.length : Int))) - (1 : Int))) = some (q.f1_Keep.length + q.f2_Remove.length) := by
      rw [qoP (n := (q.f1_Keep.length : Int) + (q.f2_Remove.length : Int)) (by omega), qoP (by omega)]
      unfold downO
      rw [if_pos (by omega)]
      congr 1
      omega
    rw [e, Option.bind_some]
    exact quD _ i q _ out (by omega) fun out' h' => (quA l out' (i + 1) (by omega) fun r hr' => hr r (by simp [hr'])).mono fun r hr' => by omega
/-! ### states -/
theorem quT (p : qI) (g : Gl) (hw : wtL g.ts ≤ 1000000000) : TT (qej p g) (rightG g = true) := by
  unfold qej
  rw [qmh _ hw, Option.bind_some]
  refine TT.c1 fun h => TT.c1 fun _ => ?_
  have h : rightG g = true := by simpa using h
  exact .cond (fun _ => .pure fun _ => h) fun _ => .bind (qkE _ _ _) fun _ _ => .pure fun _ => h
theorem qu7 {fuel : Nat} (hfu : 21 ≤ fuel) (g : Gl) (fresh : Int) (b : List (Int × T)) (h : rightG g = true) : TotP (qeA fuel g fresh b) Any := by
  unfold qeA qcC
  exact .bind (qmS hfu g h) fun _ _ => .bind (qrf b fresh _) fun _ _ => .pure trivial
theorem quS (g : Gl) : TT (qeo g) (g.op = 0 ∧ g.n.toList = [] ∧ g.ts = []) := by
  unfold qeo
  refine TT.c2 fun h1 => TT.c2 fun h2 => TT.yes fun h3 => ⟨by simpa using h1, ?_, ?_⟩
  · rw [nilB] at h2
    simpa using h2
  · have : (g.ts.length : Int) = 0 := by simpa using h3
    exact List.eq_nil_of_length_eq_zero (by omega)
theorem qrs {fuel : Nat} (hfu : 21 ≤ fuel) (c : qar) (p : qI) (o : List qc5) (ho : o.length ≤ 10000000) (hn : c.f4_Next ≤ 2147483648) : ∀ l : List qas, (∀ x ∈ l, wtL x.f0_Goal.ts ≤ 1000000000) → TT (qaU (some true) c fuel p o l) (∀ f ∈ l, Ok (eFrame f))
  | [], _ => by rw [qaU]; exact TT.yes fun _ => by simp
  | f :: l, hw => by
    have ih := qrs hfu c p o ho hn l fun x hx => hw x (by simp [hx])
    rw [qaU]
    refine .cond (fun h0 => ?_) fun h0 => ?_
    · have h0 : f.f1_ID = 0 := by simpa using h0
      refine TT.c1 fun h1 => TT.bind (quT p f.f0_Goal (hw f (by simp))) rfl fun h2 => ?_
      show TT (bif !true then some false else _) _
      have h1 : f.f2_Occ = 0 := by simpa using h1
      refine TT.c1 fun _ => TotP.bind (qu7 hfu f.f0_Goal _ _ h2) fun _ _ => TT.c1 fun _ => ih.mono fun h g hg => ?_
      rcases List.mem_cons.1 hg with rfl | hg
      · unfold eFrame
        rw [if_pos h0]
        exact (Ok.num (by omega) (by omega)).cat ((Ok.num (by omega) (by omega)).cat (Ok.goal h2))
      · exact h g hg
    · have h0 : f.f1_ID ≠ 0 := by simpa using h0
      refine TT.c1 fun h1 => TT.c1 fun h2 => TT.bind (quS f.f0_Goal) rfl fun h3 => ?_
      show TT (bif !true then some false else _) _
      refine TT.c1 fun _ => TT.c1 fun h4 => TT.c1 fun h5 => ih.mono fun h g hg => ?_
      have h1 := of_decide_eq_false h1
      have h2 := of_decide_eq_false h2
      have h4 := of_decide_eq_false h4
      have h5 := of_decide_eq_false h5
      rcases List.mem_cons.1 hg with rfl | hg
      · unfold eFrame
        rw [if_neg h0, if_pos h3]
        exact (Ok.num (by omega) (by omega)).cat ((Ok.num (by omega) (by omega)).cat ⟨_, rfl⟩)
      · exact h g hg
theorem right26 {fuel : Nat} (hfu : 21 ≤ fuel) (p : qI) (hp : ProgM p) (c : qar) (hc : ConfigS c) : TT (qet fuel p c) (Ok (eConfig c)) := by
  unfold qet
  refine TotP.bind (qst hfu p hp) fun e he => TT.c1 fun h0 => TT.c1 fun h1 => ?_
  have hr := he (by simpa using h0)
  have h1 := of_decide_eq_false h1
  have hn := hc.n
  refine TT.bind (quh hfu p (fun r hr => (hp.r r hr).l) c.f1_Store c.f2_Binds c.f3_Fired c.f4_Next c.f5_Fresh hc.s hc.b (by omega)) rfl fun hs => ?_
  show TT (bif !true then some false else _) _
  refine TT.c1 fun _ => ?_
  unfold qfL
  have hpn := hp.n
  refine TotP.bind (quA p.f1_Rules [] 0 (by simp only [List.length_nil]; omega) hr) fun o ho => ?_
  refine (qrs hfu c p o (by simp only [List.length_nil] at ho; omega) hs.n.2 c.f0_Stack hc.k).mono fun hf => ?_
  have hlt := hs.lt
  have h31 := hs.n.2
  refine (Ok.num (by omega) (by omega)).cat ((Ok.list (by omega) hf).cat ((Ok.list (by have := hs.l.1; omega) fun x hx => ?_).cat ((Ok.list (by omega) fun x hx => ?_).cat ((Ok.list (by have := hs.h.1; omega) fun x hx => ?_).cat ((Ok.num (by have := hs.n.1; omega) (by omega)).cat ((Ok.num hs.f.1 hs.f.2).cat ⟨_, rfl⟩))))))
  · have q1 := hs.l.2 x hx
    have q2 := hlt x hx
    exact (Ok.num (by omega) (by omega)).cat (Ok.atom q1.2)
  · have := hs.b x hx
    exact (Ok.num this.1.1 this.1.2).cat (Ok.term this.2)
  · have h2 := hs.h.2 x hx
    refine (Ok.num h2.1.1 h2.1.2).cat (Ok.list (by omega) fun id hid => ?_)
    obtain ⟨y, hy, rfl⟩ := hs.id x hx id hid
    have := hs.l.2 y hy
    have := hlt y hy
    exact Ok.num (by omega) (by omega)
/-! ### justifications -/
def SortJ (l : List Int) : Prop := l.Pairwise (· < ·) ∧ ∀ x ∈ l, 1 ≤ x ∧ x ≤ 64
theorem qpF : ∀ (l : List Int) (a : Int), 0 ≤ a → a ≤ 64 → l.Pairwise (· < ·) → (∀ x ∈ l, a < x ∧ x ≤ 64) → (l.length : Int) ≤ 64 - a
  | [], a, _, h, _, _ => by simp only [List.length_nil]; omega
  | x :: l, a, h0, h1, hp, hx => by
    have h2 := hx x (by simp)
    rw [List.pairwise_cons] at hp
    have := qpF l x (by omega) h2.2 hp.2 fun y hy => ⟨hp.1 y hy, (hx y (by simp [hy])).2⟩
    simp only [List.length_cons]
    omega
theorem SortJ.len {l : List Int} (h : SortJ l) : l.length ≤ 64 := by
  have := qpF l 0 (by omega) (by omega) h.1 fun x hx => ⟨by have := h.2 x hx; omega, (h.2 x hx).2⟩
  omega
theorem qux (l0 : List Int) (hn : l0.length ≤ 10000000) : ∀ (l pre : List Int), l0 = pre ++ l → SortJ pre → TT (qaD (some true) l0 l pre.length) (SortJ l0)
  | [], pre, hp, hs => by
    rw [qaD]
    refine TT.yes fun _ => ?_
    rw [hp, List.append_nil]
    exact hs
  | x :: l, pre, hp, hs => by
    rw [qaD]
    refine TT.c1 fun h1 => TT.c1 fun h2 => ?_
    have h1 := of_decide_eq_false h1
    have h2 := of_decide_eq_false h2
    have fin : (∀ a ∈ pre, a < x) → TT (qaD (some true) l0 l (pre.length + 1)) (SortJ l0) := fun hlt => by
      have ih := qux l0 hn l (pre ++ [x]) (by rw [hp]; simp) ⟨by
        rw [List.pairwise_append]
        exact ⟨hs.1, List.pairwise_singleton _ _, fun a ha b hb => by
          rw [List.mem_singleton] at hb
          rw [hb]
          exact hlt a ha⟩, fun y hy => by
        rcases List.mem_append.1 hy with hy | hy
        · exact hs.2 y hy
        · rw [List.mem_singleton] at hy
          omega⟩
      rwa [List.length_append, List.length_singleton] at ih
    refine .cond (fun hpos => ?_) fun hpos => fin fun a ha => ?_
    · have hpos := of_decide_eq_true hpos
      have hlen : pre.length ≤ 10000000 := by rw [hp, List.length_append] at hn; omega
      rcases List.eq_nil_or_concat pre with rfl | ⟨pre', b, rfl⟩
      · simp at hpos
      · simp only [List.concat_eq_append] at hp hs fin hpos hlen ⊢
        have hb : getI l0 (wr (((pre' ++ [b]).length : Int) - 1)) = some b := by
          rw [List.length_append, List.length_singleton] at hlen ⊢
          rw [qoP (by omega)]
          have e : (((pre'.length + 1 : Nat) : Int) - 1) = (pre'.length : Int) := by omega
          rw [e, hp, qjQ]
          simp
        rw [hb, Option.bind_some]
        refine TT.c1 fun h3 => fin fun a ha => ?_
        have h3 := of_decide_eq_false h3
        rcases List.mem_append.1 ha with ha | ha
        · have := (List.pairwise_append.1 hs.1).2.2 a ha b (by simp)
          omega
        · rw [List.mem_singleton] at ha
          omega
    · have hpos := of_decide_eq_false hpos
      have : pre = [] := List.eq_nil_of_length_eq_zero (by omega)
      subst this
      cases ha
theorem qnw : SortJ [] := ⟨List.Pairwise.nil, by simp⟩
theorem right49 (l : List Int) (hn : l.length ≤ 10000000) : TT (qdv l) (SortJ l) := qux l hn l [] rfl qnw
theorem qts {Q : List Int → Prop} (k : Int → Option (List Int)) (n : Int) (l0 : List Int) (hk : ∀ pre l, l0 = pre ++ l → (∀ x ∈ pre, x < n) → (∀ q r, l = q :: r → n ≤ q) → TotP (k (pre.length : Int)) Q) : ∀ (l pre : List Int), l0 = pre ++ l → (∀ x ∈ pre, x < n) → TotP (qbL k n l pre.length) Q
  | [], pre, hp, hl => by
    rw [qbL]
    exact hk pre [] hp hl (by simp)
  | x :: l, pre, hp, hl => by
    rw [qbL]
    refine .cond (fun h => ?_) fun h => hk pre (x :: l) hp hl fun q r e => ?_
    · have h := of_decide_eq_true h
      have := qts k n l0 hk l (pre ++ [x]) (by rw [hp]; simp) fun y hy => by
        rcases List.mem_append.1 hy with hy | hy
        · exact hl y hy
        · rw [List.mem_singleton] at hy
          omega
      rwa [List.length_append, List.length_singleton] at this
    · have h := of_decide_eq_false h
      injection e with e1 e2
      omega
theorem qto (pre l : List Int) : subO (pre ++ l) 0 (pre.length : Int) = some pre := by
  rw [subO, if_pos ⟨Int.le_refl _, by omega, by rw [List.length_append]; omega⟩]
  simp
theorem qtR (pre l : List Int) : subO (pre ++ l) (pre.length : Int) ((pre ++ l).length : Int) = some l := by
  rw [subO, if_pos ⟨by omega, by rw [List.length_append]; omega, Int.le_refl _⟩, Int.toNat_natCast, Int.toNat_natCast, List.take_length, List.drop_left]
theorem app8 {l m : List Int} (hl : l.length + m.length ≤ 10000000) : appO 8 l m = some (l ++ m) := qho (by omega) (by omega)
theorem quu (l : List Int) (n : Int) (hl : SortJ l) (h1 : 1 ≤ n) (h2 : n ≤ 64) : TotP (qdE l n) SortJ := by
  have hlen := hl.len
  unfold qdE
  refine qts _ n l (fun pre r hp hlt hge => ?_) l [] rfl (by simp)
  have hpl : pre.length + r.length ≤ 64 := by rw [hp, List.length_append] at hlen; exact hlen
  have hs : (∀ a ∈ r, n < a) → SortJ (pre ++ [n] ++ r) := fun hgt => by
    have hp1 := hl.1
    rw [hp, List.pairwise_append] at hp1
    refine ⟨?_, fun x hx => ?_⟩
    · rw [List.append_assoc, List.pairwise_append]
      refine ⟨hp1.1, ?_, fun a ha b hb => ?_⟩
      · rw [List.singleton_append, List.pairwise_cons]
        exact ⟨hgt, hp1.2.1⟩
      · rcases List.mem_append.1 hb with hb | hb
        · rw [List.mem_singleton] at hb
          rw [hb]
          exact hlt a ha
        · exact hp1.2.2 a ha b hb
    · rcases List.mem_append.1 hx with hx | hx
      · rcases List.mem_append.1 hx with hx | hx
        · exact hl.2 x (by rw [hp]; exact List.mem_append_left _ hx)
        · rw [List.mem_singleton] at hx
          omega
      · exact hl.2 x (by rw [hp]; exact List.mem_append_right _ hx)
  have tail : (∀ a ∈ r, n < a) → TotP ((subO l 0 (pre.length : Int)).bind fun l_7 => (appO 8 [] l_7).bind fun l_8 => (appO 8 l_8 [n]).bind fun l_10 => (subO l (pre.length : Int) (l.length : Int)).bind fun l_12 => (appO 8 l_10 l_12).bind fun l_13 => some l_13) SortJ := fun hgt => by
    rw [hp, qto, Option.bind_some, app8 (by simp only [List.length_nil]; omega), Option.bind_some, List.nil_append, app8 (by simp only [List.length_singleton]; omega), Option.bind_some, qtR, Option.bind_some, app8 (by simp only [List.length_append, List.length_singleton]; omega), Option.bind_some]
    exact .pure (hs hgt)
  refine .cond (fun h => ?_) fun h => tail fun a ha => ?_
  · have h := of_decide_eq_true h
    cases r with
    | nil => rw [hp, List.append_nil] at h; omega
    | cons q r' =>
      rw [show getI l (pre.length : Int) = some q by rw [hp]; exact qvy pre q r', Option.bind_some]
      refine .cond (fun _ => .pure hl) fun hne => tail fun a ha => ?_
      have hq := hge q r' rfl
      have hne : q ≠ n := by simpa using hne
      rcases List.mem_cons.1 ha with rfl | ha
      · omega
      · have hp1 := hl.1
        rw [hp, List.pairwise_append] at hp1
        have := (List.pairwise_cons.1 hp1.2.1).1 a ha
        omega
  · have h := of_decide_eq_false h
    rw [hp, List.length_append] at h
    have : r = [] := List.eq_nil_of_length_eq_zero (by omega)
    subst this
    cases ha
theorem qrc : ∀ (l out : List Int), SortJ out → (∀ x ∈ l, 1 ≤ x ∧ x ≤ 64) → TotP (qbq (fun o => some o) l out) SortJ
  | [], out, h, _ => by rw [qbq]; exact .pure h
  | x :: l, out, h, hl => by
    rw [qbq]
    exact .bind (quu out x h (hl x (by simp)).1 (hl x (by simp)).2) fun r hr => qrc l r hr fun y hy => hl y (by simp [hy])
theorem qq5 (k : List Int → Option (List Int)) (hk : ∀ o, SortJ o → TotP (k o) SortJ) : ∀ (l out : List Int), SortJ out → (∀ x ∈ l, 1 ≤ x ∧ x ≤ 64) → TotP (qbl k l out) SortJ
  | [], out, h, _ => by rw [qbl]; exact hk out h
  | x :: l, out, h, hl => by
    rw [qbl]
    exact .bind (quu out x h (hl x (by simp)).1 (hl x (by simp)).2) fun r hr => qq5 k hk l r hr fun y hy => hl y (by simp [hy])
theorem qu6 (a b : List Int) (ha : SortJ a) (hb : SortJ b) : TotP (qem a b) SortJ := by
  unfold qem
  exact qq5 _ (fun o ho => qrc b o ho hb.2) a [] qnw ha.2
theorem qsC : ∀ (l : List qX) (out : List Int), SortJ out → (∀ x ∈ l, SortJ x.f2_Just) → TotP (qcc (fun o => some o) l out) SortJ
  | [], out, h, _ => by rw [qcc]; exact .pure h
  | x :: l, out, h, hl => by
    rw [qcc]
    exact .bind (qu6 out x.f2_Just h (hl x (by simp))) fun r hr => qsC l r hr fun y hy => hl y (by simp [hy])
/-! ### programs -/
theorem qne (n : Int) : ∀ l : List Int, TotP (qbg (some false) n l) Any
  | [] => ⟨_, by rw [qbg], trivial⟩
  | q :: l => by
    rw [qbg]
    exact .cond (fun _ => .pure trivial) fun _ => qne n l
theorem qqB (m : List Int) : ∀ l : List Int, TotP (qbX (some true) m l) Any
  | [] => ⟨_, by rw [qbX], trivial⟩
  | q :: l => by
    rw [qbX]
    exact .bind (qne q m) fun _ _ => .cond (fun _ => .pure trivial) fun _ => qqB m l
theorem op4 {g : Gl} (h : rightG g = true) (h4 : g.op = 4) : ∃ a b, g.ts = [a, b] ∧ formT b = true ∧ depthT b ≤ 20 ∧ sizeT b ≤ 200 := by
  have hr := (qmy h).2.2.2.2
  unfold rightG at h
  rw [if_neg (by omega)] at h
  simp only [Bool.and_eq_true, decide_eq_true_eq] at h
  have h2 := h.1.2
  rw [h4] at h2
  have h3 : (g.ts.length : Int) = 2 := by rw [← h2]; decide
  obtain ⟨f1, f2, f3⟩ := qkl hr
  match hts : g.ts, h3 with
  | [a, b], _ =>
    rw [hts] at f1 f2 f3
    simp only [formL, Bool.and_eq_true] at f1
    simp only [sizeL] at f2
    simp only [depthL] at f3
    exact ⟨a, b, rfl, f1.2.1, by omega, by omega⟩
theorem qnG {fuel : Nat} (hfu : 21 ≤ fuel) : ∀ (l : List Gl) (known : List Int), (∀ g ∈ l, rightG g = true) → known.length + l.length ≤ 100000 → TotP (qaq (some true) fuel l known) Any
  | [], known, _, _ => ⟨_, by rw [qaq], trivial⟩
  | g :: l, known, hr, hl => by
    simp only [List.length_cons] at hl
    have hg := hr g (by simp)
    have ih := qnG hfu l known (fun x hx => hr x (by simp [hx])) (by omega)
    have tail : g.op = 4 → TotP ((getI g.ts 0).bind fun q_30 => bif (q_30.k != (1 : Int)) then some (false) else (qbV known q_30.i).bind fun r_32 => bif r_32 then some (false) else (getI g.ts 1).bind fun q_34 => (qb0 fuel q_34).bind fun r_35 => (qcO r_35 known).bind fun r_36 => bif (!r_36) then some (false) else (appO 8 known [q_30.i]).bind fun l_38 => qaq (some true) fuel l l_38) Any := fun h4 => by
      obtain ⟨a, b, e, f1, f2, f3⟩ := op4 hg h4
      have e0 : getI g.ts 0 = some a := by rw [e]; rfl
      have e1 : getI g.ts 1 = some b := by rw [e]; rfl
      rw [e0, Option.bind_some]
      refine .cond (fun _ => .pure trivial) fun _ => ?_
      unfold qbV
      refine .bind (qne _ _) fun _ _ => .cond (fun _ => .pure trivial) fun _ => ?_
      rw [e1, Option.bind_some]
      unfold qcO
      refine .bind (qsF fuel b (by omega) (by omega)) fun _ _ => .bind (qqB _ _) fun _ _ => .cond (fun _ => .pure trivial) fun _ => ?_
      rw [app8 (by simp only [List.length_singleton]; omega), Option.bind_some]
      exact qnG hfu l _ (fun x hx => hr x (by simp [hx])) (by simp only [List.length_append, List.length_singleton]; omega)
    rw [qaq]
    refine .cond (fun _ => .pure trivial) fun _ => .cond (fun _ => ?_) fun _ => .cond (fun h4 => tail (by simpa using h4)) fun _ => ih
    unfold qcO at tail ⊢
    exact .bind (qmS hfu g hg) fun _ _ => .bind (qqB _ _) fun _ _ => .cond (fun _ => .pure trivial) fun _ => .cond (fun h4 => tail (by simpa using h4)) fun _ => ih
theorem qpl {fuel : Nat} (hfu : 21 ≤ fuel) (k : List Int → Option Bool) : ∀ (l : List At) (known : List Int), (∀ a ∈ l, rightA a = true) → known.length + 200 * l.length ≤ 50000 → (∀ known' : List Int, known'.length ≤ 50000 → TotP (k known') Any) → TotP (qbJ k fuel l known) Any
  | [], known, _, h, hk => by rw [qbJ]; exact hk known (by omega)
  | a :: l, known, hr, hl, hk => by
    simp only [List.length_cons] at hl
    rw [qbJ]
    refine .bind (qmR hfu a (hr a (by simp))) fun r hr' => ?_
    rw [app8 (by omega), Option.bind_some]
    exact qpl hfu k l _ (fun x hx => hr x (by simp [hx])) (by rw [List.length_append]; omega) hk
theorem qtO {fuel : Nat} (hfu : 21 ≤ fuel) (r : qU) (hl : RuleL r) (hr : RuleR r) : TotP (qeD fuel r) Any := by
  unfold qeD
  rw [heads16 r hl, Option.bind_some]
  have h1 := hl.k
  have h2 := hl.r
  have h3 := hl.b
  exact qpl hfu _ _ _ hr.h (by simp only [List.length_nil, List.length_append]; omega) fun known hk => qnG hfu _ known (fun g hg => hr.g g (List.mem_append_right _ hg)) (by omega)
theorem qob {fuel : Nat} (hfu : 21 ≤ fuel) : ∀ l : List qU, (∀ r ∈ l, RuleL r ∧ RuleR r) → TotP (qbs (some 0) fuel l) Any
  | [], _ => ⟨_, by rw [qbs], trivial⟩
  | r :: l, h => by
    rw [qbs]
    exact .bind (qtO hfu r (h r (by simp)).1 (h r (by simp)).2) fun _ _ => .cond (fun _ => .pure trivial) fun _ => qob hfu l fun x hx => h x (by simp [hx])
theorem check50 {fuel : Nat} (hfu : 21 ≤ fuel) (p : qI) (hp : ProgM p) : T0 (qeh fuel p) (∀ r ∈ p.f1_Rules, RuleR r) := by
  unfold qeh
  refine .bind (qst hfu p hp) fun e he => .cond (fun _ => T0.err (by decide)) fun h0 => ?_
  have hr := he (by simpa using h0)
  exact (qob hfu p.f1_Rules fun r h => ⟨(hp.r r h).l, hr r h⟩).mono fun _ _ _ => hr
/-! ### facts -/
structure FactR (m : qab) (x : qX) : Prop where
  i : 1 ≤ x.f0_ID ∧ x.f0_ID < m.f3_Next
  a : rightA x.f1_Atom = true
  j : SortJ x.f2_Just
theorem qqA {fuel : Nat} (hfu : 21 ≤ fuel) (p : qI) (m : qab) (l0 : List qX) (hn : l0.length ≤ 10000000) (hw : ∀ x ∈ l0, wtL x.f1_Atom.ts ≤ 1000000000 ∧ x.f2_Just.length ≤ 10000000) : ∀ (l pre : List qX), l0 = pre ++ l → TT (qaC (some true) fuel l0 m p l pre.length) (∀ x ∈ l, FactR m x)
  | [], pre, _ => by rw [qaC]; exact TT.yes fun _ => by simp
  | x :: l, pre, hp => by
    have hx : x ∈ l0 := by rw [hp]; simp
    have ih := qqA hfu p m l0 hn hw l (pre ++ [x]) (by rw [hp]; simp)
    rw [List.length_append, List.length_singleton] at ih
    rw [qaC, qkU _ (hw x hx).1]
    simp only [Option.bind_some]
    refine TT.c1 fun h1 => TT.c1 fun h2 => ?_
    have h1 := of_decide_eq_false h1
    have h2 := of_decide_eq_false h2
    have tail : TT (bif !rightA x.f1_Atom then some false else (qbB fuel x.f1_Atom).bind fun r_24 => bif (decide ((r_24.length : Int) > (0 : Int))) then some (false) else (qaW p.f0_Decls x.f1_Atom.n (x.f1_Atom.ts.length : Int)).bind fun r_26 => bif (!r_26) then some (false) else bif ((x.f2_Just.length : Int) == (0 : Int)) then some (false) else (qdv x.f2_Just).bind fun r_29 => bif (!r_29) then some (false) else (getI x.f2_Just 0).bind fun q_31 => bif (decide (q_31 < (1 : Int))) then some (false) else (getI x.f2_Just (wr ((x.f2_Just.length : Int) - (1 : Int)))).bind fun q_33 => bif (decide (q_33 > m.f4_Given)) then some (false) else qaC (some true) fuel l0 m p l (pre.length + 1)) (∀ y ∈ x :: l, FactR m y) := by
      refine TT.c1 fun h3 => ?_
      have h3 : rightA x.f1_Atom = true := by simpa using h3
      refine TotP.bind (qmR hfu _ h3) fun _ _ => TT.c1 fun _ => TotP.bind (qkE _ _ _) fun _ _ => TT.c1 fun _ => TT.c1 fun h0 => ?_
      have h0 : (x.f2_Just.length : Int) ≠ 0 := by simpa using h0
      refine TT.bind (right49 x.f2_Just (hw x hx).2) rfl fun h4 => ?_
      show TT (bif !true then some false else _) _
      refine TT.c1 fun _ => ?_
      cases hj : x.f2_Just with
      | nil => rw [hj] at h0; simp at h0
      | cons a j =>
        rw [show getI (a :: j) 0 = some a from rfl, Option.bind_some]
        refine TT.c1 fun _ => ?_
        obtain ⟨q, hq⟩ := qnY (a :: j) [] (by simp) (by rw [← hj]; exact (hw x hx).2)
        rw [List.append_nil] at hq
        rw [hq, Option.bind_some]
        refine TT.c1 fun _ => ih.mono fun h y hy => ?_
        rcases List.mem_cons.1 hy with rfl | hy
        · exact ⟨by omega, h3, h4⟩
        · exact h y hy
    refine .cond (fun hpos => ?_) fun _ => tail
    have hlen : pre.length ≤ 10000000 := by rw [hp, List.length_append] at hn; omega
    obtain ⟨q, hq⟩ := qnY pre (x :: l) (by have := of_decide_eq_true hpos; omega) hlen
    rw [← hp] at hq
    rw [hq, Option.bind_some]
    exact TT.c1 fun _ => tail
theorem find49 (id : Int) : ∀ l : List qX, TotP (qbK (some ((⟨0, (⟨⟨#[]⟩, []⟩ : At), []⟩ : qX), false)) id l) fun r => r.2 = true → r.1 ∈ l ∧ r.1.f0_ID = id
  | [] => ⟨_, by rw [qbK], fun h => by simp at h⟩
  | q :: l => by
    rw [qbK]
    exact .cond (fun h => .pure fun _ => ⟨by simp, by simpa using h⟩) fun _ => (find49 id l).mono fun r hr h => ⟨by simp [(hr h).1], (hr h).2⟩
theorem qrz (m : qab) (id : Int) : TotP (qdk m id) fun r => r.2 = true → r.1 ∈ m.f0_Facts ++ m.f1_Past ∧ r.1.f0_ID = id := by
  unfold qdk qch
  refine .bind (find49 id m.f0_Facts) fun r hr => .cond (fun h => .pure fun _ => ⟨List.mem_append_left _ (hr h).1, (hr h).2⟩) fun _ => .bind (find49 id m.f1_Past) fun r hr => .pure fun h => ⟨List.mem_append_right _ (hr h).1, (hr h).2⟩
theorem qpZ (b : List Int) : ∀ (l : List Int) (i : Nat), b.length = i + l.length → TT (qbP (some true) b l i) (b.drop i = l)
  | [], i, h => by
    rw [qbP]
    exact TT.yes fun _ => List.drop_eq_nil_of_le (by simp only [List.length_nil] at h; omega)
  | q :: l, i, h => by
    simp only [List.length_cons] at h
    rw [qbP, qjQ, List.getElem?_eq_getElem (by omega), Option.bind_some]
    refine TT.c1 fun hq => (qpZ b l (i + 1) (by omega)).mono fun g => ?_
    have hq : q = b[i]'(by omega) := by simpa using hq
    rw [List.drop_eq_getElem_cons (by omega), g, ← hq]
theorem qoW (a b : List Int) : TT (qdd a b) (a = b) := by
  unfold qdd
  refine TT.c1 fun h => ?_
  have h : a.length = b.length := by
    have : (a.length : Int) = (b.length : Int) := by simpa using h
    omega
  exact (qpZ b a 0 (by omega)).mono fun g => by simpa using g.symm
/-! ### applications -/
def FId (m : qab) (id : Int) : Prop := ∃ y ∈ m.f0_Facts ++ m.f1_Past, y.f0_ID = id
theorem qoj (m : qab) (x : qat) : ∀ l : List Int, TT (qbk (some true) m x l) (∀ id ∈ l, FId m id)
  | [] => by rw [qbk]; exact TT.yes fun _ => by simp
  | q :: l => by
    rw [qbk]
    refine TotP.bind (qrz m q) fun r hr => TT.c1 fun h => TT.bind (qoW _ _) rfl fun _ => ?_
    show TT (bif !true then some false else _) _
    refine TT.c1 fun _ => (qoj m x l).mono fun g id hid => ?_
    rcases List.mem_cons.1 hid with rfl | hid
    · have := hr (by simpa using h)
      exact ⟨r.1, this.1, this.2⟩
    · exact g id hid
theorem qop {Q : Prop} (k : Option Bool) (hk : TT k Q) (m : qab) : ∀ l : List Int, TT (qbm k m l) Q
  | [] => by rw [qbm]; exact hk
  | q :: l => by
    rw [qbm]
    unfold qch
    exact TotP.bind (find49 q _) fun r hr => TT.c1 fun _ => qop k hk m l
theorem qn8 {Q : Prop} (k : List qX → Option Bool) (m : qab) (hm : ∀ y ∈ m.f0_Facts ++ m.f1_Past, FactR m y) (x : qat) (hk : ∀ acc : List qX, (∀ y ∈ acc, SortJ y.f2_Just) → TT (k acc) Q) : ∀ (l pre : List Int) (acc : List qX), x.f1_Heads = pre ++ l → acc.length + l.length ≤ 1000 → (∀ y ∈ acc, SortJ y.f2_Just) → TT (qbr k m x l acc pre.length) ((∀ id ∈ l, FId m id) ∧ Q)
  | [], pre, acc, _, _, ha => by rw [qbr]; exact (hk acc ha).mono fun h => ⟨by simp, h⟩
  | q :: l, pre, acc, hp, hl, ha => by
    simp only [List.length_cons] at hl
    rw [qbr]
    refine TotP.bind (qrz m q) fun r hr => TT.c1 fun h => ?_
    have h := hr (by simpa using h)
    rw [hp, qto, Option.bind_some]
    unfold qbV
    refine TotP.bind (qne _ _) fun _ _ => TT.c1 fun _ => ?_
    rw [qho (by simp only [List.length_singleton]; omega) (by simp only [List.length_singleton]; omega), Option.bind_some]
    have ih := qn8 k m hm x hk l (pre ++ [q]) (acc ++ [r.1]) (by rw [hp]; simp) (by simp only [List.length_append, List.length_singleton]; omega) fun y hy => by
      rcases List.mem_append.1 hy with hy | hy
      · exact ha y hy
      · rw [List.mem_singleton] at hy
        rw [hy]
        exact (hm _ h.1).j
    rw [List.length_append, List.length_singleton] at ih
    refine ih.mono fun g => ⟨fun id hid => ?_, g.2⟩
    rcases List.mem_cons.1 hid with rfl | hid
    · exact ⟨r.1, h.1, h.2⟩
    · exact g.1 id hid
theorem qrH {Q : Prop} (k : Option Bool) (q : qU) (hq : RuleR q) (x : qat) (hk : x.f1_Heads.length ≤ 4 → TT k Q) : TT (qdx k q x) ((x.f1_Heads.length ≤ 4 ∧ (∀ id ∈ x.f2_Gone, id ∈ x.f1_Heads) ∧ x.f2_Gone.length ≤ 4 ∧ x.f3_Made.length ≤ 12) ∧ Q) := by
  have hn := hq.n
  rw [List.length_append] at hn
  unfold qdx
  refine TT.c1 fun h => ?_
  rw [qoP (by omega)] at h
  have h : (x.f1_Heads.length : Int) = (q.f1_Keep.length : Int) + (q.f2_Remove.length : Int) := by simpa using h
  rw [subO, if_pos ⟨by omega, by omega, Int.le_refl _⟩, Option.bind_some]
  refine TT.bind (qoW _ _) rfl fun hg => ?_
  show TT (bif !true then some false else _) _
  refine TT.c1 fun _ => ?_
  have hg1 : ∀ id ∈ x.f2_Gone, id ∈ x.f1_Heads := fun id hid => by
    rw [hg] at hid
    exact List.mem_of_mem_take (List.mem_of_mem_drop hid)
  have hg2 : x.f2_Gone.length ≤ 4 := by
    rw [hg, List.length_drop, List.length_take]
    omega
  exact .cond (fun _ => TT.c1 fun _ => TT.c1 fun h12 => (hk (by omega)).mono fun g => ⟨⟨by omega, hg1, hg2, by have := of_decide_eq_false h12; omega⟩, g⟩) fun _ => TT.c1 fun h12 => (hk (by omega)).mono fun g => ⟨⟨by omega, hg1, hg2, by have := of_decide_eq_false h12; omega⟩, g⟩
theorem entry50 (p : qI) (hp : ∀ r ∈ p.f1_Rules, RuleR r) (hn : p.f1_Rules.length ≤ 8) (m : qab) (hm : ∀ y ∈ m.f0_Facts ++ m.f1_Past, FactR m y) (hx : m.f3_Next ≤ 2147483648) (x : qat) : TT (qel p m x) (Ok (eApplied x)) := by
  unfold qel
  refine TT.c1 fun h1 => TT.c1 fun h2 => ?_
  have h1 := of_decide_eq_false h1
  have h2 := of_decide_eq_false h2
  obtain ⟨n, hn'⟩ := Int.eq_ofNat_of_zero_le (by omega : 0 ≤ x.f0_Rule)
  have hlt : n < p.f1_Rules.length := by omega
  rw [hn', qjQ, List.getElem?_eq_getElem hlt, Option.bind_some]
  refine (qrH (Q := ((∀ id ∈ x.f1_Heads, FId m id) ∧ (∀ id ∈ x.f3_Made, FId m id) ∧ SortJ x.f5_Just)) _ _ (hp _ (List.getElem_mem hlt)) x fun h4 => ?_).mono fun g => ?_
  · refine qn8 _ m hm x (fun acc ha => ?_) x.f1_Heads [] [] rfl (by simp only [List.length_nil]; omega) (by simp)
    unfold qfQ
    refine TotP.bind (qsC acc [] qnw ha) fun o ho => TT.bind (qoW _ _) rfl fun hj => ?_
    show TT (bif !true then some false else _) _
    exact TT.c1 fun _ => qop _ ((qoj m x x.f3_Made).mono fun g => ⟨g, by rw [hj]; exact ho⟩) m _
  · obtain ⟨⟨g1, g2, g3, g4⟩, g5, g6, g7⟩ := g
    have hid : ∀ id, FId m id → Ok (eNum 0 2147483648 id) := fun id ⟨y, hy, he⟩ => by
      have := (hm y hy).i
      exact Ok.num (by omega) (by omega)
    have hl := g7.len
    exact (Ok.num (by omega) (by omega)).cat ((Ok.list (by omega) fun id h => hid id (g5 id h)).cat ((Ok.list (by omega) fun id h => hid id (g5 id (g2 id h))).cat ((Ok.list (by omega) fun id h => hid id (g6 id h)).cat (Ok.cat ⟨_, rfl⟩ (Ok.list (by omega) fun j h => by
      have := g7.2 j h
      exact Ok.num (by omega) (by omega))))))
theorem qoI (k : Int → Option Int) (hk : ∀ n, TotP (k n) Any) (id : Int) : ∀ (l : List Int) (n : Int), TotP (qaZ k id l n) Any
  | [], n => by rw [qaZ]; exact hk n
  | q :: l, n => by
    rw [qaZ]
    exact .cond (fun _ => qoI k hk id l _) fun _ => qoI k hk id l _
theorem qoL (k : Int → Option Int) (hk : ∀ n, TotP (k n) Any) (id : Int) : ∀ (l : List Int) (n : Int), TotP (qaV k id l n) Any
  | [], n => by rw [qaV]; exact hk n
  | q :: l, n => by
    rw [qaV]
    exact .cond (fun _ => qoL k hk id l _) fun _ => qoL k hk id l _
theorem qms (id : Int) (b : Bool) : ∀ (l : List qat) (n : Int), TotP (qa0 (fun n => some n) id b l n) Any
  | [], n => ⟨_, by rw [qa0], trivial⟩
  | q :: l, n => by
    rw [qa0]
    exact .cond (fun _ => qoI _ (fun n => qms id b l n) id _ _) fun _ => qoL _ (fun n => qms id b l n) id _ _
theorem qn9 (m : qab) : ∀ l : List qX, TotP (qby (some true) m l) Any
  | [] => ⟨_, by rw [qby], trivial⟩
  | q :: l => by
    rw [qby]
    unfold qcZ
    exact .bind (qms _ _ _ _) fun _ _ => .cond (fun _ => .pure trivial) fun _ => .bind (qms _ _ _ _) fun _ _ => .cond (fun _ => .pure trivial) fun _ => qn9 m l
theorem qor (k : Option Bool) (hk : TotP k Any) (m : qab) : ∀ l : List qX, TotP (qbx k m l) Any
  | [] => by rw [qbx]; exact hk
  | q :: l => by
    rw [qbx]
    unfold qcZ qch
    exact .bind (find49 _ _) fun _ _ => .cond (fun _ => .pure trivial) fun _ => .bind (qms _ _ _ _) fun _ _ => .cond (fun _ => .pure trivial) fun _ => qor k hk m l
theorem qoa (k : Option Bool) (hk : TotP k Any) (p : qI) (hp : ∀ r ∈ p.f1_Rules, RuleR r) (hn : p.f1_Rules.length ≤ 8) (m : qab) (hm : ∀ y ∈ m.f0_Facts ++ m.f1_Past, FactR m y) (hx : m.f3_Next ≤ 2147483648) : ∀ l : List qat, TT (qbo k m p l) (∀ x ∈ l, Ok (eApplied x))
  | [] => by rw [qbo]; exact hk.mono fun _ _ _ => by simp
  | x :: l => by
    rw [qbo]
    refine TT.bind (entry50 p hp hn m hm hx x) rfl fun h => ?_
    show TT (bif !true then some false else _) _
    refine TT.c1 fun _ => (qoa k hk p hp hn m hm hx l).mono fun g y hy => ?_
    rcases List.mem_cons.1 hy with rfl | hy
    · exact h
    · exact g y hy
structure MemM (m : qab) : Prop where
  f : ∀ x ∈ m.f0_Facts, wtL x.f1_Atom.ts ≤ 1000000000 ∧ x.f2_Just.length ≤ 10000000
  p : ∀ x ∈ m.f1_Past, wtL x.f1_Atom.ts ≤ 1000000000 ∧ x.f2_Just.length ≤ 10000000
  n : m.f0_Facts.length ≤ 10000000 ∧ m.f1_Past.length ≤ 10000000
theorem right50 {fuel : Nat} (hfu : 21 ≤ fuel) (p : qI) (hp : ProgM p) (m : qab) (hm : MemM m) : TT (qc3 fuel p m) (Ok (eMemory m)) := by
  have hn := hm.n
  unfold qc3
  refine TotP.bind (check50 hfu p hp) fun e he => TT.c1 fun h0 => TT.c1 fun h1 => TT.c1 fun h2 => TT.c1 fun h3 => TT.c1 fun h4 => TT.c1 fun h5 => TT.c1 fun h6 => ?_
  have hr := he (by simpa using h0)
  have h1 := of_decide_eq_false h1
  have h2 := of_decide_eq_false h2
  have h3 := of_decide_eq_false h3
  have h4 := of_decide_eq_false h4
  have h5 := of_decide_eq_false h5
  have h6 := of_decide_eq_false h6
  rw [qoP (by omega)] at h6
  unfold qes
  refine TT.bind (qqA hfu p m m.f0_Facts hn.1 hm.f m.f0_Facts [] rfl) rfl fun hf => ?_
  show TT (bif !true then some false else _) _
  refine TT.c1 fun _ => TT.bind (qqA hfu p m m.f1_Past hn.2 hm.p m.f1_Past [] rfl) rfl fun hq => ?_
  show TT (bif !true then some false else _) _
  refine TT.c1 fun _ => ?_
  have hall : ∀ y ∈ m.f0_Facts ++ m.f1_Past, FactR m y := fun y hy => by
    rcases List.mem_append.1 hy with hy | hy
    · exact hf y hy
    · exact hq y hy
  have hfact : ∀ y, FactR m y → Ok (eFact y) := fun y hy => by
    have hi := hy.i
    have hl := hy.j.len
    exact (Ok.num (by omega) (by omega)).cat ((Ok.atom hy.a).cat (Ok.list (by omega) fun j h => by
      have := hy.j.2 j h
      exact Ok.num (by omega) (by omega)))
  refine (qoa _ (qor _ (qn9 m _) m _) p hr hp.n m hall (by omega) m.f2_Log).mono fun hlog => ?_
  exact (Ok.num (by omega) (by omega)).cat ((Ok.list (by omega) fun x hx => hfact x (hf x hx)).cat ((Ok.list (by omega) fun x hx => hfact x (hq x hx)).cat ((Ok.list (by omega) hlog).cat ((Ok.num (by omega) (by omega)).cat (Ok.num (by omega) (by omega))))))
/-! ### small programs -/
theorem qmJ {Q : Prop} (k : Option Bool) (hk : TT k Q) : ∀ l : List At, (∀ a ∈ l, wtL a.ts ≤ 1000000000) → TT (qbz k l) Q
  | [], _ => by rw [qbz]; exact hk
  | a :: l, h => by
    rw [qbz]
    exact TotP.bind (qqo a.ts (h a (by simp))) fun _ _ => TT.c1 fun _ => qmJ k hk l fun x hx => h x (by simp [hx])
theorem qoc : ∀ l : List qU, (∀ r ∈ l, RuleW r) → (∀ r ∈ l, r.f1_Keep.length ≤ 10000000 ∧ r.f2_Remove.length ≤ 10000000) → TT (qaS (some true) l) (∀ r ∈ l, RuleL r)
  | [], _, _ => by rw [qaS]; exact TT.yes fun _ => by simp
  | r :: l, h, hb => by
    have hr := h r (by simp)
    have ih := qoc l (fun x hx => h x (by simp [hx])) fun x hx => hb x (by simp [hx])
    rw [qaS]
    unfold qek
    refine TT.c1 fun h1 => TT.c1 fun h2 => TT.c1 fun _ => TT.c1 fun h3 => TT.c1 fun h4 => TotP.bind (qmJ (some true) (Q := True) (TT.yes fun _ => trivial) _ hr.k) fun _ _ => TT.c1 fun _ => TotP.bind (qmJ (some true) (Q := True) (TT.yes fun _ => trivial) _ hr.r) fun _ _ => TT.c1 fun _ => TotP.bind (qmL _ _ hr.g) fun _ _ => TT.c1 fun _ => TotP.bind (qmL _ _ hr.b) fun _ _ => TT.c1 fun _ => ih.mono fun g x hx => ?_
    have h1 := of_decide_eq_false h1
    have h2 := of_decide_eq_false h2
    have h3 := of_decide_eq_false h3
    have h4 := of_decide_eq_false h4
    rcases List.mem_cons.1 hx with rfl | hx
    · exact ⟨by omega, by omega, by omega, by omega⟩
    · exact g x hx
theorem progs23 (p : qI) (h : ∀ r ∈ p.f1_Rules, RuleW r) (hb : ∀ r ∈ p.f1_Rules, r.f1_Keep.length ≤ 10000000 ∧ r.f2_Remove.length ≤ 10000000) : TT (qdz p) ((∀ r ∈ p.f1_Rules, RuleL r) ∧ p.f1_Rules.length ≤ 8) := by
  unfold qdz
  refine TT.c1 fun _ => TT.c1 fun h8 => (qoc p.f1_Rules h hb).mono fun g => ⟨g, ?_⟩
  have h8 := of_decide_eq_false h8
  omega
/-! ### readers -/
abbrev RR := qd
def Rdr {α : Type} (f : RR → Option (Int ⊕ (α × RR))) (e : List Int) (x : α) : Prop :=
  (∀ a z : List Int, (a ++ e ++ z).length ≤ 1000000000 → f ⟨a ++ e ++ z, (a.length : Int)⟩ = some (.inr (x, ⟨a ++ e ++ z, ((a ++ e).length : Int)⟩))) ∧
  (∀ a t z : List Int, (a ++ t).length ≤ 1000000000 → z ≠ [] → e = t ++ z → f ⟨a ++ t, (a.length : Int)⟩ = some (.inl 4))
def RdO {α : Type} (f : RR → Option (Int ⊕ (α × RR))) (r : Option (List Int)) (x : α) : Prop := ∀ e, r = some e → Rdr f e x
section
variable {α β : Type} {f : RR → Option (Int ⊕ (α × RR))} {G : α × RR → Option (Int ⊕ (β × RR))} {x : α} {y : β} {e e' : List Int} {r s : Option (List Int)}
theorem Rdr.pure : Rdr (fun c => some (.inr (x, c))) [] x := by
  refine ⟨fun a z _ => by simp, fun a t z _ hz he => ?_⟩
  have := congrArg List.length he
  simp only [List.length_nil, List.length_append] at this
  exact absurd (List.eq_nil_of_length_eq_zero (by omega)) hz
theorem Rdr.bind (hf : Rdr f e x) (hg : Rdr (fun c => G (x, c)) e' y) : Rdr (fun c => bindX (f c) G) (e ++ e') y := by
  constructor
  · intro a z hl
    have h1 := hf.1 a (e' ++ z) (by simpa only [List.append_assoc] using hl)
    have h2 := hg.1 (a ++ e) z (by simpa only [List.append_assoc] using hl)
    simp only [List.append_assoc] at h1 h2 ⊢
    rw [h1]
    exact h2
  · intro a t z hl hz ht
    rcases List.append_eq_append_iff.1 ht with ⟨a', rfl, h2⟩ | ⟨c', rfl, h2⟩
    · have h1 := hf.1 a a' (by simpa only [List.append_assoc] using hl)
      have h3 := hg.2 (a ++ e) a' z (by simpa only [List.append_assoc] using hl) hz h2
      simp only [List.append_assoc] at h1 h3 ⊢
      rw [h1]
      exact h3
    · by_cases hc : c' = []
      · subst hc
        have h1 := hf.1 a [] (by simpa using hl)
        have h3 := hg.2 (a ++ t) [] e' (by simpa using hl) (by rw [List.nil_append] at h2; rw [← h2]; exact hz) rfl
        simp only [List.append_nil] at h1 h3
        show bindX (f _) G = _
        rw [h1]
        exact h3
      · show bindX (f _) G = _
        rw [hf.2 a t c' hl hc rfl]
        rfl
theorem Rdr.congr {g : RR → Option (Int ⊕ (α × RR))} (h : Rdr f e x) (hc : ∀ c, f c = g c) : Rdr g e x := by
  have : f = g := funext hc
  subst this
  exact h
theorem RdO.congr {g : RR → Option (Int ⊕ (α × RR))} (h : RdO f r x) (hc : ∀ c, f c = g c) : RdO g r x := fun e he => (h e he).congr hc
theorem RdO.bind (hf : RdO f r x) (hg : RdO (fun c => G (x, c)) s y) : RdO (fun c => bindX (f c) G) (catO r s) y := fun e he => by
  obtain ⟨a, b, h1, h2, rfl⟩ := qpG he
  exact (hf a h1).bind (hg b h2)
theorem RdO.last (hf : RdO f r x) (hg : ∀ c, G (x, c) = some (.inr (y, c))) : RdO (fun c => bindX (f c) G) r y := fun e he => by
  have := (hf e he).bind (G := G) ((Rdr.pure (x := y)).congr fun c => (hg c).symm)
  rwa [List.append_nil] at this
theorem RdO.eq (h : RdO f r x) (he : r = s) : RdO f s x := he ▸ h
end
theorem qtW {lo hi n : Int} {s : Option (List Int)} {e : List Int} (h : catO (eNum lo hi n) s = some e) : e ≠ [] := by
  obtain ⟨a, b, h1, _, rfl⟩ := qpG h
  unfold eNum at h1
  split at h1
  · rename_i hh
    obtain rfl := Option.some.inj h1
    intro h0
    have : encN n = [] := (List.append_eq_nil_iff.1 h0).1
    have h2 := congrArg List.length this
    unfold encN at h2
    rw [qoY, List.length_take] at h2
    have := qsg (zig n)
    simp only [List.length_nil] at h2
    omega
  · cases h1
theorem ex52 : qau 30 = some true := by
  kernel_rfl
theorem cT {b : Bool} {x y : Option Bool} (h1 : b = true → x = some true) (h2 : b = false → y = some true) : (bif b then x else y) = some true := by
  cases b with
  | true => exact h1 rfl
  | false => exact h2 rfl
theorem qvO {e : List Int} (h : e ≠ []) : ((e.length : Int) == 0) = false := by
  rw [beq_eq_false_iff_ne]
  have := List.length_pos_iff.2 h
  omega
theorem RuleS.w {x : qU} (h : RuleS x) : RuleW x := ⟨h.k, h.r, h.g, h.b⟩
/-! ### cuts -/
end Go.Proofs.YtdoljfkjdfaakaaGreat
namespace Go.Proofs.YtdoljfkjdfaakaaGreat
set_option maxRecDepth 100000
open Go.ChangeShapes Go.WideShapes Go.ChangeAt Go.RowKit
def live (w : World) (a : Addr) : Prop := ∃ v, w.cell? a = some v
theorem qs8 {w w' : World} (e : Ext w w') : Grow (live w) w (live w') w' := fun _ ⟨v, hv⟩ => ⟨⟨v, e.cellOf hv⟩, by rw [hv]; exact e.cellOf hv⟩
def Op (t : TypeId) (n : Nat) (S : D → Prop) : Prop := ∀ (H : Type) (enc : TypeId × Value → H) (W : World) (base : Nat) (sp : Nat → Bool) (hd : Bool) (fuel : Nat) (cs : List Value) (x : DataW H × List MemPlace),
  DataW.trod enc Tryz.prog W base sp hd fuel t cs = some x → ∃ d v, S d ∧ d.plain = true ∧ sz d = n ∧ Rep (live W) W d v ∧ cs = v.cells.toList
theorem Op.to {t : TypeId} {n : Nat} {S S' : D → Prop} (h : Op t n S) (k : ∀ d, S d → S' d) : Op t n S' := fun H enc W base sp hd fuel cs x hx => by
  obtain ⟨d, v, h1, h2⟩ := h H enc W base sp hd fuel cs x hx
  exact ⟨d, v, k d h1, h2⟩
theorem qvE {t : TypeId} (ht : (Tryz.prog).underlying t = some (.int .i64)) : Op t 1 fun d => ∃ n, d = .int .i64 n := fun H enc W base sp hd fuel cs x hx => by
  obtain ⟨k, rfl, _, w0⟩ := DataW.trod_int ht hx
  have := qvp w0
  refine ⟨.int .i64 k, .int .i64 k, ⟨k, rfl⟩, rfl, rfl, ?_, by simp [Value.cells]⟩
  simp only [Rep]
  exact ⟨trivial, wrap64 (by unfold I64 at this; omega)⟩
theorem qvh {t : TypeId} (ht : (Tryz.prog).underlying t = some .bool) : Op t 1 fun d => ∃ b, d = .bool b := fun H enc W base sp hd fuel cs x hx => by
  obtain ⟨b, rfl, _⟩ := DataW.trod_bool ht hx
  refine ⟨.bool b, .bool b, ⟨b, rfl⟩, rfl, rfl, ?_, by simp [Value.cells]⟩
  simp only [Rep]
def Fits : List (D → Prop) → List D → Prop
  | [], [] => True
  | S :: ss, d :: ds => S d ∧ Fits ss ds
  | _, _ => False
def tight (P : Program) : Nat → List Field → Bool
  | _, [] => true
  | o, f :: fs => f.offset == o && tight P (o + P.cellsOf f.type) fs
theorem qnF {p : Addr → Prop} {w : World} : ∀ {ds : List D} {cs : List Value}, Reps p w ds cs → (∀ d ∈ ds, d.plain = true) → ∀ u ∈ cs, u.oneCell' = true
  | [], cs, h, _, u, hu => by simp only [Reps] at h; subst h; simp at hu
  | d :: ds, cs, h, hp, u, hu => by
    simp only [Reps] at h
    obtain ⟨v, rest, rfl, h1, h2⟩ := h
    rcases List.mem_append.1 hu with hu | hu
    · exact h1.one (hp d (List.mem_cons_self ..)) u hu
    · exact qnF h2 (fun e he => hp e (List.mem_cons_of_mem _ he)) u hu
def total (P : Program) : List Field → Nat
  | [] => 0
  | f :: fs => P.cellsOf f.type + total P fs
def layD (n : Nat) (hn : 0 < n) (S : D → Prop) : Lay D where
  C := fun w d cs => S d ∧ d.plain = true ∧ sz d = n ∧ ∃ v, Rep (live w) w d v ∧ cs = v.cells.toList
  n := n
  pos := hn
  ext := fun ⟨h1, h2, h3, v, h4, h5⟩ e => ⟨h1, h2, h3, v, h4.grow (qs8 e), h5⟩
  len := fun ⟨_, _, h3, v, h4, h5⟩ => by rw [h5, ← h3, ← h4.sz]; simp
  one := fun ⟨_, h2, _, v, h4, h5⟩ u hu => by subst h5; exact h4.one h2 u hu
theorem qte {n : Nat} {hn : 0 < n} {S : D → Prop} {w : World} : ∀ {l : List D} {xs : List Value}, (layD n hn S).Ls w l xs → (∀ d ∈ l, S d ∧ d.plain = true) ∧ Reps (live w) w l xs
  | [], xs, h => by
    have h : xs = [] := h
    subst h
    exact ⟨by simp, Reps.nil _ _⟩
  | d :: l, xs, ⟨cs, ys, h1, ⟨g1, g2, _, v, g4, g5⟩, h3⟩ => by
    obtain ⟨k1, k2⟩ := qte h3
    subst h1 g5
    refine ⟨?_, Reps.cons g4 k2⟩
    intro e he
    rcases List.mem_cons.1 he with rfl | he
    · exact ⟨g1, g2⟩
    · exact k1 e he
theorem qu8 {w : World} {A : Option Addr} {xs : List Value} (h : Rd w A xs) : RdP (live w) w A xs := by
  rcases h with h | ⟨ad, rfl, hc⟩
  · exact .inl h
  · by_cases he : xs = []
    · exact .inl he
    · have hlen : 0 < xs.length := List.length_pos_iff.2 he
      have hsp : ad.spot = none := by
        have := qnl (hc 0 _ (List.getElem?_eq_getElem hlen))
        simpa [Addr.add] using this
      obtain ⟨b, o, sp⟩ := ad
      simp only at hsp
      subst hsp
      refine .inr ⟨b, o, rfl, fun j u hu => ?_⟩
      have h1 : w.cell? ⟨b, o + j, none⟩ = some u := by have := hc j u hu; rwa [qoK] at this
      exact ⟨⟨u, h1⟩, h1⟩
theorem qqR {α : Type} {f : α → D} : ∀ {l : List D}, (∀ x ∈ l, ∃ a, x = f a) → ∃ av : List α, l = av.map f
  | [], _ => ⟨[], rfl⟩
  | d :: l, h => by
    obtain ⟨a, rfl⟩ := h d (List.mem_cons_self ..)
    obtain ⟨av, rfl⟩ := qqR fun x hx => h x (List.mem_cons_of_mem _ hx)
    exact ⟨a :: av, rfl⟩
/-! ### terms -/
/-! ### a law's arguments -/
def Cl (t : TypeId) (S : D → Prop) : Prop := ∀ (W : World) (b : Nat) (v : Value), Value.okWide Tryz.prog W .any b t v → ∀ d, S d → v = reval d v.cells.toList
theorem Cl.to {t : TypeId} {S S' : D → Prop} (h : Cl t S') (k : ∀ d, S d → S' d) : Cl t S := fun W b v hv d hd => h W b v hv d (k d hd)
theorem qnL {t : TypeId} {fs : Array Field} (ht : (Tryz.prog).underlying t = some (.struct fs)) : Cl t fun d => ∃ ds, d = .agg ds := fun W b v hv d ⟨ds, hd⟩ => by
  obtain ⟨cs, rfl, _⟩ := okWide_struct ht hv
  subst hd
  simp [Value.cells, reval]
mutual
def bulkD : D → Nat
  | .str s => s.size + 1
  | .agg l => bulkDs l + 1
  | .lst l => bulkDs l + 1
  | _ => 1
def bulkDs : List D → Nat
  | [] => 0
  | d :: l => bulkD d + bulkDs l
end
def OpB (N : Nat) (t : TypeId) (n : Nat) (S : D → Prop) : Prop := ∀ (H : Type) (enc : TypeId × Value → H) (W : World) (base : Nat) (sp : Nat → Bool) (hd : Bool) (fuel : Nat) (cs : List Value) (x : DataW H × List MemPlace), fuel < N →
  DataW.trod enc Tryz.prog W base sp hd fuel t cs = some x → ∃ d v, S d ∧ d.plain = true ∧ sz d = n ∧ Rep (live W) W d v ∧ cs = v.cells.toList ∧ bulkD d ≤ Rows.uptoBulk x.1
theorem OpB.to {N : Nat} {t : TypeId} {n : Nat} {S S' : D → Prop} (h : OpB N t n S) (k : ∀ d, S d → S' d) : OpB N t n S' := fun H enc W base sp hd fuel cs x hN hx => by
  obtain ⟨d, v, h1, h2⟩ := h H enc W base sp hd fuel cs x hN hx
  exact ⟨d, v, k d h1, h2⟩
theorem OpB.less {N M : Nat} {t : TypeId} {n : Nat} {S : D → Prop} (h : OpB N t n S) (hM : M ≤ N) : OpB M t n S := fun H enc W base sp hd fuel cs x hN hx => h H enc W base sp hd fuel cs x (by omega) hx
theorem qul {H : Type} (d : DataW H) : 1 ≤ Rows.uptoBulk d := by
  cases d with
  | lit l => cases l <;> simp [Rows.uptoBulk]
  | nil => simp [Rows.uptoBulk]
  | ptr d => simp [Rows.uptoBulk]
  | slice elems spare => simp [Rows.uptoBulk]
  | agg parts => simp [Rows.uptoBulk]
  | iface t d => simp [Rows.uptoBulk]
  | map entries => simp [Rows.uptoBulk]
  | held h => simp [Rows.uptoBulk]
theorem qg3 {N : Nat} {t : TypeId} (ht : (Tryz.prog).underlying t = some (.int .i64)) : OpB N t 1 fun d => ∃ n, d = .int .i64 n := fun H enc W base sp hd fuel cs x _ hx => by
  obtain ⟨d, v, ⟨n, rfl⟩, h2, h3, h4, h5⟩ := qvE ht H enc W base sp hd fuel cs x hx
  exact ⟨_, v, ⟨n, rfl⟩, h2, h3, h4, h5, by simp only [bulkD]; exact qul _⟩
theorem qnT {N : Nat} {t : TypeId} (ht : (Tryz.prog).underlying t = some .string) : OpB N t 1 fun d => ∃ s, d = .str s := fun H enc W base sp hd fuel cs x _ hx => by
  obtain ⟨s, rfl, hxe, w0⟩ := DataW.trod_string ht hx
  refine ⟨.str s, .string s, ⟨s, rfl⟩, rfl, rfl, ?_, by simp [Value.cells], ?_⟩
  · simp only [Rep]
    exact ⟨trivial, by unfold maxLen at w0; omega⟩
  · rw [hxe]
    simp only [bulkD, Rows.uptoBulk]
    exact Nat.le_refl _
def OpsB (N : Nat) : List Field → List (D → Prop) → Prop
  | [], [] => True
  | f :: fs, S :: ss => OpB N f.type ((Tryz.prog).cellsOf f.type) S ∧ OpsB N fs ss
  | _, _ => False
theorem qmZ {H : Type} {enc : TypeId × Value → H} {W : World} {base : Nat} {sp : Nat → Bool} {hd : Bool} {N n : Nat} (hn : n < N) {cs : List Value} :
    ∀ (fs : List Field) (ss : List (D → Prop)) (o : Nat) (xs : List (DataW H × List MemPlace)), OpsB N fs ss → tight Tryz.prog o fs = true → o + total Tryz.prog fs = cs.length → xs.length = fs.length →
      (∀ (i : Nat) (f : Field), fs[i]? = some f → DataW.trod enc Tryz.prog W base sp hd n f.type ((cs.drop f.offset).take ((Tryz.prog).cellsOf f.type)) = xs[i]?) →
      ∃ ds, Fits ss ds ∧ (∀ d ∈ ds, d.plain = true) ∧ szs ds = total Tryz.prog fs ∧ Reps (live W) W ds (cs.drop o) ∧ bulkDs ds ≤ Rows.uptoBulkAll (xs.map (·.1))
  | [], [], o, xs, _, _, hl, _, _ => ⟨[], trivial, by simp, rfl, by simp only [total] at hl; rw [List.drop_eq_nil_of_le (by omega)]; exact Reps.nil _ _, by simp [bulkDs]⟩
  | f :: fs, S :: ss, o, x :: xs, hop, ht, hl, hlen, hx => by
    simp only [tight, Bool.and_eq_true, beq_iff_eq] at ht
    simp only [total] at hl
    obtain ⟨ds, h1, h2, h3, h4, h5⟩ := qmZ hn fs ss (o + (Tryz.prog).cellsOf f.type) xs hop.2 ht.2 (by omega) (by simpa using hlen) fun i g hg => hx (i + 1) g hg
    have h6 := hx 0 f rfl
    rw [ht.1] at h6
    obtain ⟨d, v, g1, g2, g3, g4, g5, g6⟩ := hop.1 H enc W base sp hd n _ x hn h6
    refine ⟨d :: ds, ⟨g1, h1⟩, ?_, by simp only [szs, total, g3, h3], ?_, ?_⟩
    · intro e he
      rcases List.mem_cons.1 he with rfl | he
      · exact g2
      · exact h2 e he
    · have := Reps.cons g4 h4
      rw [← g5, ← List.drop_drop, List.take_append_drop] at this
      exact this
    · simp only [bulkDs, List.map_cons, Rows.uptoBulkAll]
      omega
  | _ :: _, _ :: _, _, [], _, _, _, h, _ => by simp at h
  | [], _ :: _, _, _, h, _, _, _, _ => h.elim
  | _ :: _, [], _, _, h, _, _, _, _ => h.elim
theorem qe9 {N : Nat} {t : TypeId} {fs : Array Field} {n : Nat} (ht : (Tryz.prog).underlying t = some (.struct fs)) (ss : List (D → Prop)) (hs : OpsB N fs.toList ss) (h1 : tight Tryz.prog 0 fs.toList = true) (h2 : total Tryz.prog fs.toList = n) (h3 : (Tryz.prog).cellsOf t = n) :
    OpB (N + 1) t n fun d => ∃ ds, d = .agg ds ∧ Fits ss ds := fun H enc W base sp hd fuel cs x hN hx => by
  obtain ⟨xs, m, hm, hxe, hl, hlen, hf⟩ := DataW.trod_struct ht hx
  obtain ⟨ds, g1, g2, g3, g4, g5⟩ := qmZ (enc := enc) (W := W) (base := base) (sp := sp) (hd := hd) (N := N) (n := m) (by omega) (cs := cs) fs.toList ss 0 xs hs h1 (by omega) (by simpa using hlen) fun i f hi => hf i f (by simpa using hi)
  refine ⟨.agg ds, .agg cs.toArray, ⟨ds, rfl, g1⟩, rfl, by simp only [sz]; omega, ?_, by simp [Value.cells], ?_⟩
  · simp only [Rep]
    rw [List.drop_zero] at g4
    exact ⟨cs, rfl, g4, qnF g4 g2⟩
  · rw [hxe]
    simp only [bulkD, Rows.uptoBulk]
    omega
theorem collectB {n : Nat} {hn : 0 < n} {S : D → Prop} {w : World} {ad : Addr} (Q : Nat → D → Prop) : ∀ (len : Nat), (∀ i, i < len → ∃ a cs, Q i a ∧ (layD n hn S).C w a cs ∧ ∀ j, j < n → w.cell? (ad.add (i * n + j)) = cs[j]?) → ∃ l xs, l.length = len ∧ (∀ i d, l[i]? = some d → Q i d) ∧ (layD n hn S).Ls w l xs ∧ ∀ j u, xs[j]? = some u → w.cell? (ad.add j) = some u
  | 0, _ => ⟨[], [], rfl, by simp, Lay.Ls.nil w, by simp⟩
  | len + 1, h => by
    obtain ⟨l, xs, h1, h0, h2, h3⟩ := collectB (hn := hn) (S := S) (w := w) (ad := ad) Q len fun i hi => h i (by omega)
    obtain ⟨a, cs, h7, h4, h5⟩ := h len (by omega)
    refine ⟨l ++ [a], xs ++ cs, by simp [h1], fun i d hd => ?_, Lay.Ls.app h2 (Lay.Ls.single h4), fun j u hu => ?_⟩
    · by_cases hi : i < l.length
      · rw [List.getElem?_append_left hi] at hd
        exact h0 i d hd
      · rw [List.getElem?_append_right (by omega)] at hd
        have hlt := (List.getElem?_eq_some_iff.1 hd).1
        simp at hlt
        have hi' : i = len := by omega
        subst hi'
        rw [h1, Nat.sub_self] at hd
        injection hd with hd
        subst hd
        exact h7
    · have hx := Lay.Ls.len h2
      have hx : xs.length = l.length * n := hx
      by_cases hj : j < xs.length
      · rw [List.getElem?_append_left hj] at hu
        exact h3 j u hu
      · rw [List.getElem?_append_right (by omega)] at hu
        have hlt := (List.getElem?_eq_some_iff.1 hu).1
        rw [(layD n hn S).len h4] at hlt
        have h6 := h5 (j - xs.length) hlt
        rw [hu] at h6
        rw [← h6, hx, h1]
        rw [hx, h1] at hj
        congr 2
        omega
theorem qro {H : Type} : ∀ (l : List D) (es : List (DataW H)), l.length = es.length → (∀ (i : Nat) (d : D), l[i]? = some d → ∃ e : DataW H, es[i]? = some e ∧ bulkD d ≤ Rows.uptoBulk e) → bulkDs l ≤ Rows.uptoBulkAll es
  | [], es, _, _ => by simp [bulkDs]
  | d :: l, [], h, _ => by simp at h
  | d :: l, e :: es, h, hp => by
    obtain ⟨e', h1, h2⟩ := hp 0 d rfl
    have h1 : e = e' := by simpa using h1
    subst h1
    have := qro l es (by simpa using h) fun i x hx => by simpa using hp (i + 1) x (by simpa using hx)
    simp only [bulkDs, Rows.uptoBulkAll]
    omega
theorem qsS {N : Nat} {t e : TypeId} {n : Nat} {S : D → Prop} (ht : (Tryz.prog).underlying t = some (.slice e)) (hn : (Tryz.prog).cellsOf e = n) (hp : 0 < n) (he : OpB N e n S) : OpB (N + 1) t 1 fun d => ∃ l, d = .lst l ∧ ∀ x ∈ l, S x := fun H enc W base sp hd fuel cs x hN hx => by
  rcases DataW.trod_slice ht hx with ⟨rfl, hxe⟩ | ⟨a, len, cap, elems, rest, m, hf, rfl, hxe, _, hl, hm, hlen, hel, _, _⟩
  · refine ⟨.lst [], .slice none 0 0, ⟨[], rfl, by simp⟩, rfl, rfl, ?_, by simp [Value.cells], by rw [hxe]; simp [bulkD, bulkDs, Rows.uptoBulk]⟩
    simp only [Rep]
    exact ⟨none, 0, [], rfl, by simp, by omega, .inl rfl, Reps.nil _ _, by simp⟩
  · obtain ⟨l, xs, h1, h0, h2, h3⟩ := collectB (hn := hp) (S := S) (w := W) (ad := a) (fun i d => ∃ y, elems[i]? = some y ∧ bulkD d ≤ Rows.uptoBulk y.1) len fun i hi => by
      have g1 := hel i hi
      rw [List.getElem?_eq_getElem (by omega), hn] at g1
      obtain ⟨cs', g2, g3⟩ := Option.bind_eq_some_iff.1 g1
      obtain ⟨d, v, k1, k2, k3, k4, k5, k6⟩ := he H enc W base sp hd m cs' _ (by omega) g3
      obtain ⟨_, g5, g6⟩ := World.cells?_some g2
      refine ⟨d, cs', ⟨_, List.getElem?_eq_getElem (by omega), k6⟩, ⟨k1, k2, k3, v, k4, k5⟩, fun j hj => ?_⟩
      rw [← qqZ]
      exact g6 j hj
    obtain ⟨h6, h7⟩ := qte h2
    refine ⟨.lst l, .slice (some a) l.length cap, ⟨l, rfl, fun d hd => (h6 d hd).1⟩, rfl, rfl, ?_, by rw [h1]; simp [Value.cells], ?_⟩
    · simp only [Rep]
      exact ⟨some a, cap, xs, rfl, by omega, by unfold maxLen at hm; omega, qu8 (.inr ⟨a, rfl, h3⟩), h7, qnF h7 fun d hd => (h6 d hd).2⟩
    · rw [hxe]
      simp only [bulkD, Rows.uptoBulk]
      have := qro l (elems.map (·.1)) (by simp [h1, hlen]) fun i d hd => by
        obtain ⟨y, y1, y2⟩ := h0 i d hd
        exact ⟨y.1, by simp [y1], y2⟩
      omega
theorem qhd {α : Type} {f : α → D} {N : Nat} {t e : TypeId} {n : Nat} (ht : (Tryz.prog).underlying t = some (.slice e)) (hn : (Tryz.prog).cellsOf e = n) (hp : 0 < n) (he : OpB N e n fun d => ∃ a, d = f a) : OpB (N + 1) t 1 fun d => ∃ av : List α, d = .lst (av.map f) :=
  (qsS ht hn hp he).to fun d ⟨l, hl, h⟩ => by
    obtain ⟨av, rfl⟩ := qqR h
    exact ⟨av, hl⟩
theorem qoH : ∀ N, OpB N 114 4 fun d => ∃ t, d = encT t
  | 0 => fun H enc W base sp hd fuel cs x hN => by omega
  | N + 1 => (qe9 (N := N) Tryz.underlying114 [fun d => ∃ n, d = .int .i64 n, fun d => ∃ n, d = .int .i64 n, fun d => ∃ s, d = .str s, fun d => ∃ l : List T, d = .lst (l.map encT)] ⟨qg3 Tryz.underlying3, qg3 Tryz.underlying3, qnT Tryz.underlying9, (qhd Tryz.underlying71 qot (by omega) (qoH N)).less (by omega), trivial⟩ (by kernel_rfl) (by kernel_rfl) (by kernel_rfl)).to fun d ⟨ds, hd, h⟩ => by
    match ds, h with
    | [_, _, _, _], ⟨⟨k, rfl⟩, ⟨i, rfl⟩, ⟨s, rfl⟩, ⟨l, rfl⟩, _⟩ => exact ⟨.mk k i s l, by rw [hd, encT, qiZ]; rfl⟩
theorem qpS (N : Nat) : OpB N 71 1 fun d => ∃ l : List T, d = .lst (l.map encT) := (qhd Tryz.underlying71 qot (by omega) (qoH N)).less (by omega)
theorem qoA (N : Nat) : OpB N 107 2 fun d => ∃ a, d = encA a :=
  ((qe9 (N := N) Tryz.underlying107 [fun d => ∃ s, d = .str s, fun d => ∃ l : List T, d = .lst (l.map encT)] ⟨qnT Tryz.underlying9, qpS N, trivial⟩ (by kernel_rfl) (by kernel_rfl) (by kernel_rfl)).less (by omega)).to fun d ⟨ds, hd, h⟩ => by
    match ds, h with
    | [_, _], ⟨⟨s, rfl⟩, ⟨l, rfl⟩, _⟩ => exact ⟨⟨s, l⟩, hd⟩
theorem qpH (N : Nat) : OpB N 65 1 fun d => ∃ l : List At, d = .lst (l.map encA) := (qhd Tryz.underlying65 (by kernel_rfl) (by omega) (qoA N)).less (by omega)
theorem qri (N : Nat) : OpB N 73 3 fun d => ∃ g, d = encG g :=
  ((qe9 (N := N) Tryz.underlying73 [fun d => ∃ n, d = .int .i64 n, fun d => ∃ s, d = .str s, fun d => ∃ l : List T, d = .lst (l.map encT)] ⟨qg3 Tryz.underlying3, qnT Tryz.underlying9, qpS N, trivial⟩ (by kernel_rfl) (by kernel_rfl) qos).less (by omega)).to fun d ⟨ds, hd, h⟩ => by
    match ds, h with
    | [_, _, _], ⟨⟨n, rfl⟩, ⟨s, rfl⟩, ⟨l, rfl⟩, _⟩ => exact ⟨⟨n, s, l⟩, hd⟩
theorem qp0 (N : Nat) : OpB N 66 1 fun d => ∃ l : List Gl, d = .lst (l.map encG) := (qhd Tryz.underlying66 qos (by omega) (qri N)).less (by omega)
theorem qt8 (N : Nat) : OpB N 68 6 fun d => ∃ r, d = qm r :=
  ((qe9 (N := N) Tryz.underlying68 [fun d => ∃ s, d = .str s, fun d => ∃ l : List At, d = .lst (l.map encA), fun d => ∃ l : List At, d = .lst (l.map encA), fun d => ∃ l : List Gl, d = .lst (l.map encG), fun d => ∃ l : List Gl, d = .lst (l.map encG), fun d => ∃ n, d = .int .i64 n] ⟨qnT Tryz.underlying9, qpH N, qpH N, qp0 N, qp0 N, qg3 Tryz.underlying3, trivial⟩ (by kernel_rfl) (by kernel_rfl) (by kernel_rfl)).less (by omega)).to fun d ⟨ds, hd, h⟩ => by
    match ds, h with
    | [_, _, _, _, _, _], ⟨⟨s, rfl⟩, ⟨a, rfl⟩, ⟨b, rfl⟩, ⟨c, rfl⟩, ⟨e, rfl⟩, ⟨n, rfl⟩, _⟩ => exact ⟨⟨s, a, b, c, e, n⟩, hd⟩
theorem qsv (N : Nat) : OpB N 23 1 fun d => ∃ l : List qU, d = .lst (l.map qm) := (qhd Tryz.underlying23 (by kernel_rfl) (by omega) (qt8 N)).less (by omega)
theorem qub (N : Nat) : OpB N 29 2 fun d => ∃ q, d = qt q :=
  ((qe9 (N := N) Tryz.underlying29 [fun d => ∃ s, d = .str s, fun d => ∃ n, d = .int .i64 n] ⟨qnT Tryz.underlying9, qg3 Tryz.underlying3, trivial⟩ (by kernel_rfl) (by kernel_rfl) (by kernel_rfl)).less (by omega)).to fun d ⟨ds, hd, h⟩ => by
    match ds, h with
    | [_, _], ⟨⟨s, rfl⟩, ⟨n, rfl⟩, _⟩ => exact ⟨⟨s, n⟩, hd⟩
theorem qsu (N : Nat) : OpB N 22 1 fun d => ∃ l : List S_api_Decl, d = .lst (l.map qt) := (qhd Tryz.underlying22 (by kernel_rfl) (by omega) (qub N)).less (by omega)
theorem qqg (N : Nat) : OpB N 25 2 fun d => ∃ q, d = qn q :=
  ((qe9 (N := N) Tryz.underlying25 [fun d => ∃ l : List S_api_Decl, d = .lst (l.map qt), fun d => ∃ l : List qU, d = .lst (l.map qm)] ⟨qsu N, qsv N, trivial⟩ (by kernel_rfl) (by kernel_rfl) (by kernel_rfl)).less (by omega)).to fun d ⟨ds, hd, h⟩ => by
    match ds, h with
    | [_, _], ⟨⟨s, rfl⟩, ⟨n, rfl⟩, _⟩ => exact ⟨⟨s, n⟩, hd⟩
/-! ### what the bulk bounds -/
mutual
theorem qsK : ∀ t : T, wt t ≤ bulkD (encT t)
  | .mk k i s ar => by
    have := qnb ar
    rw [encT, qiZ]
    simp only [bulkD, bulkDs, wt, T.ar]
    omega
theorem qnb : ∀ l : List T, wtL l ≤ bulkDs (l.map encT)
  | [] => by simp [wtL]
  | t :: l => by
    have h1 := qsK t
    have h2 := qnb l
    simp only [wtL, List.map_cons, bulkDs]
    omega
end
theorem qg9 {α : Type} {f : α → D} {a : α} : ∀ {l : List α}, a ∈ l → bulkD (f a) ≤ bulkDs (l.map f)
  | b :: l, h => by
    simp only [List.map_cons, bulkDs]
    rcases List.mem_cons.1 h with rfl | h
    · omega
    · have := qg9 (f := f) h; omega
theorem qo5 {a : At} (h : bulkD (encA a) ≤ 1048576) : wtL a.ts ≤ 1048576 := by
  have := qnb a.ts
  simp only [encA, bulkD, bulkDs] at h
  omega
theorem qqD {g : Gl} (h : bulkD (encG g) ≤ 1048576) : wtL g.ts ≤ 1048576 := by
  have := qnb g.ts
  simp only [encG, bulkD, bulkDs] at h
  omega
theorem qs0 {p : qI} (h : bulkD (qn p) ≤ 1048576) : ∀ r ∈ p.f1_Rules, (∀ a ∈ r.f1_Keep, wtL a.ts ≤ 1048576) ∧ (∀ a ∈ r.f2_Remove, wtL a.ts ≤ 1048576) ∧ (∀ g ∈ r.f3_Guard, wtL g.ts ≤ 1048576) ∧ ∀ g ∈ r.f4_Body, wtL g.ts ≤ 1048576 := fun r hr => by
  simp only [qn, bulkD, bulkDs] at h
  have h1 := qg9 (f := qm) hr
  simp only [qm, bulkD, bulkDs] at h1
  refine ⟨fun a ha => ?_, fun a ha => ?_, fun a ha => ?_, fun a ha => ?_⟩
  · have := qg9 (f := encA) ha
    exact qo5 (by omega)
  · have := qg9 (f := encA) ha
    exact qo5 (by omega)
  · have := qg9 (f := encG) ha
    exact qqD (by omega)
  · have := qg9 (f := encG) ha
    exact qqD (by omega)
/-! ### a law's arguments -/
structure ArgB where
  t : TypeId
  n : Nat
  S : D → Prop
  op : ∀ N, OpB N t n S
  cl : Cl t S
def bProgram : ArgB := ⟨_, _, _, qqg, (qnL Tryz.underlying25).to fun _ ⟨_, h⟩ => ⟨_, h⟩⟩
theorem qoo {H : Type} {enc : TypeId × Value → H} {W : World} {base b : Nat} {sp : Nat → Bool} {hd : Bool} : ∀ (av : List ArgB) (vs : List Value) (ds : List (DataW H)) (ps : List MemPlace),
    DataW.TrodAll enc Tryz.prog W base sp hd (av.map ArgB.t) vs ds ps → (∀ (j : Nat) t v, (av.map ArgB.t)[j]? = some t → vs[j]? = some v → Value.okWide Tryz.prog W .any b t v) → ∃ es, Fits (av.map ArgB.S) es ∧ Repl (live W) W es vs ∧ bulkDs es ≤ Rows.uptoBulkAll ds
  | [], vs, ds, ps, h, _ => by
    obtain ⟨rfl, rfl, _⟩ := trodAll_nil h
    exact ⟨[], trivial, Repl.nil _ _, by simp [bulkDs]⟩
  | a :: av, vs, ds, ps, h, hv => by
    obtain ⟨v, vs', d, ds', p, q, rfl, rfl, rfl, ⟨fuel, h1⟩, h2⟩ := trodAll_cons h
    obtain ⟨es, g1, g2, g3⟩ := qoo av vs' ds' q h2 fun j t u ht hu => hv (j + 1) t u ht hu
    obtain ⟨e, u, k1, k2, k3, k4, k5, k6⟩ := a.op (fuel + 1) H enc W base sp hd fuel _ _ (by omega) h1
    have e1 := a.cl W b v (hv 0 a.t v rfl rfl) e k1
    have e2 := k4.back
    rw [← k5] at e2
    rw [← e2] at e1
    subst e1
    refine ⟨e :: es, ⟨k1, g1⟩, Repl.cons k4 g2, ?_⟩
    simp only [bulkDs, Rows.uptoBulkAll]
    have k6 : bulkD e ≤ Rows.uptoBulk d := k6
    omega
def HoldsU (k : FuncId) (F : Func) : Prop := ∀ (H : Type) (enc : TypeId × Value → H) (W : World) (base : Nat) (args : Array Value) (ds : List (DataW H)) (p : List MemPlace),
  (∀ (j : Nat) t v, F.params[j]? = some t → args[j]? = some v → Value.okWide Tryz.prog W .any base t v) → DataW.TrodAll enc Tryz.prog W 0 (fun _ => true) true F.params.toList args.toList ds p → Rows.uptoSmall H ds = true →
  Calls Tryz.prog k args W (Ret W (Is (.bool true)))
theorem qsa {k : FuncId} {F : Func} (av : List ArgB) (hp : F.params.toList = av.map ArgB.t) (hg : ∀ es, Fits (av.map ArgB.S) es → bulkDs es ≤ 1048576 → Gives Tryz.prog k es (.bool true)) : HoldsU k F := by
  intro H enc W base args ds p hval hA hk
  rw [hp] at hA
  obtain ⟨es, h1, h2, h3⟩ := qoo (b := base) av args.toList ds p hA fun j t v ht hv => hval j t v (by rw [← Array.getElem?_toList, hp]; exact ht) (by simpa using hv)
  have hk' : Rows.uptoBulkAll ds ≤ 1048576 := of_decide_eq_true hk
  have hI : Inv (ctx W (live W) []) (live W) [] W := ⟨by simp, by simp [blks], by simp [blks], fun a ha => ha, Grow.refl _ _, fun a ha => .inl ha, rfl, rfl, rfl, Nat.le_refl _, fun b _ _ => rfl⟩
  refine (hg es h1 (Nat.le_trans h3 hk') W (live W) args.toList hI h2).mono ?_
  rintro e w' (⟨v, d, σ, q, rfl, rfl, hr, hi⟩ | ⟨_, _, _, _, _, hx, _⟩)
  rotate_left
  · exact hx.elim
  simp only [Rep] at hr
  subst hr
  exact Ret.mk rfl ⟨hi.os, hi.tape, hi.output, hi.size, fun b hb => hi.block b hb (by simp [ctx, blks])⟩
theorem qox {k : FuncId} {F : Func} (h : HoldsU k F) {s : ChangeSpec} (hv : s.vars = [])
    (hts0 : (F.params.toList.all fun t => (Tryz.prog).readableRec t && decide (t < (Tryz.prog).types.size)) = true) (hres : F.resultTypes.toList = [4]) (hrs : F.resultTypes.size = 1)
    (hsp : ∀ (H : Type) (ds : List (DataW H)), ds.length = F.params.toList.length → s.fn H ds = { results := [.lit (.bool true)], args := ds })
    {H : Type} {enc : TypeId × Value → H} (W : World) (base : Nat) (args : Array Value) (ds gs : List (DataW H)) (before : List MemPlace)
    (hval : ∀ (j : Nat) t v, F.params[j]? = some t → args[j]? = some v → Value.okWide Tryz.prog W .any base t v)
    (hW : DataW.Whole enc Tryz.prog F.params.toList s.vars false W args.toList ds gs before) (hk : Rows.uptoSmall H (ds ++ gs) = true) :
    Calls Tryz.prog k args W fun e W' => ∃ v, e = .returned v ∧ s.post enc Tryz.prog F false true false false W args v W' := by
  have hts : ∀ t ∈ F.params.toList, (Tryz.prog).readableRec t = true ∧ t < (Tryz.prog).types.size := fun t ht => by
    have := List.all_eq_true.1 hts0 t ht
    simpa using this
  have hW' := hW
  obtain ⟨p, q, hA, hV, rfl, hfz, hnd⟩ := hW
  rw [hv] at hV
  obtain ⟨rfl, rfl⟩ := trodVars_none hV
  rw [List.append_nil] at hk
  refine (h H enc W base args ds p hval hA hk).mono ?_
  rintro e W' ⟨v, rfl, hvv, hb⟩
  have hvv : v = .bool true := hvv
  subst hvv
  have hlen := qnZ hA
  have hspec := hsp H ds hlen
  refine ⟨_, rfl, ds, [], p ++ [], [], p, [], hW', ?_, ?_, ?_, ?_, fun h => by cases h⟩
  · rw [List.append_nil, hspec, hres, hrs]
    exact trodAll_cons_mk (shut_bool Tryz.underlying4 _) trodAll_mk0
  · rw [List.append_nil, hspec]
    exact qmA qvS hb hts (fun x hx => hW'.lt x (by simpa using hx)) hA
  · rw [List.append_nil, hspec, hv]; rfl
  · exact World.keptBut_mono (fun x hx => ⟨by simpa using hx, .inr (.inl (by simpa using hx))⟩) (Below.frame hb (fun x => x ∈ p))
theorem qq6 {N : Nat} {t : TypeId} (ht : (Tryz.prog).underlying t = some .bool) : OpB N t 1 fun d => ∃ n, d = .bool n := fun H enc W base sp hd fuel cs x _ hx => by
  obtain ⟨d, v, ⟨n, rfl⟩, h2, h3, h4, h5⟩ := qvh ht H enc W base sp hd fuel cs x hx
  exact ⟨_, v, ⟨n, rfl⟩, h2, h3, h4, h5, by simp only [bulkD]; exact qul _⟩
theorem qjg (N : Nat) : OpB N 121 1 fun d => ∃ l : List Int, d = .lst (l.map (D.int .i64)) := (qhd (f := D.int .i64) Tryz.underlying121 qs2 (by omega) (qg3 (N := N) Tryz.underlying3)).less (by omega)
theorem qtL (N : Nat) : OpB N 146 4 fun d => ∃ x, d = qu x :=
  ((qe9 (N := N) Tryz.underlying146 [fun d => ∃ n, d = .int .i64 n, fun d => ∃ a, d = encA a, fun d => ∃ l : List Int, d = .lst (l.map (D.int .i64))] ⟨qg3 Tryz.underlying3, qoA N, qjg N, trivial⟩ (by kernel_rfl) (by kernel_rfl) (by kernel_rfl)).less (by omega)).to fun d ⟨ds, hd, h⟩ => by
    match ds, h with
    | [_, _, _], ⟨⟨x0, rfl⟩, ⟨x1, rfl⟩, ⟨x2, rfl⟩, _⟩ => exact ⟨⟨x0, x1, x2⟩, hd⟩
theorem qpU (N : Nat) : OpB N 52 1 fun d => ∃ l : List qX, d = .lst (l.map qu) := (qhd Tryz.underlying52 (by kernel_rfl) (by omega) (qtL N)).less (by omega)
theorem qqF (N : Nat) : OpB N 148 6 fun d => ∃ x, d = qv x :=
  ((qe9 (N := N) Tryz.underlying148 [fun d => ∃ n, d = .int .i64 n, fun d => ∃ l : List Int, d = .lst (l.map (D.int .i64)), fun d => ∃ l : List Int, d = .lst (l.map (D.int .i64)), fun d => ∃ l : List Int, d = .lst (l.map (D.int .i64)), fun d => ∃ b, d = .bool b, fun d => ∃ l : List Int, d = .lst (l.map (D.int .i64))] ⟨qg3 Tryz.underlying3, qjg N, qjg N, qjg N, qq6 Tryz.underlying4, qjg N, trivial⟩ (by kernel_rfl) (by kernel_rfl) (by kernel_rfl)).less (by omega)).to fun d ⟨ds, hd, h⟩ => by
    match ds, h with
    | [_, _, _, _, _, _], ⟨⟨x0, rfl⟩, ⟨x1, rfl⟩, ⟨x2, rfl⟩, ⟨x3, rfl⟩, ⟨x4, rfl⟩, ⟨x5, rfl⟩, _⟩ => exact ⟨⟨x0, x1, x2, x3, x4, x5⟩, hd⟩
theorem qu2 (N : Nat) : OpB N 53 1 fun d => ∃ l : List qat, d = .lst (l.map qv) := (qhd Tryz.underlying53 (by kernel_rfl) (by omega) (qqF N)).less (by omega)
theorem qr2 (N : Nat) : OpB N 55 5 fun d => ∃ x, d = qx x :=
  ((qe9 (N := N) Tryz.underlying55 [fun d => ∃ l : List qX, d = .lst (l.map qu), fun d => ∃ l : List qX, d = .lst (l.map qu), fun d => ∃ l : List qat, d = .lst (l.map qv), fun d => ∃ n, d = .int .i64 n, fun d => ∃ n, d = .int .i64 n] ⟨qpU N, qpU N, qu2 N, qg3 Tryz.underlying3, qg3 Tryz.underlying3, trivial⟩ (by kernel_rfl) (by kernel_rfl) (by kernel_rfl)).less (by omega)).to fun d ⟨ds, hd, h⟩ => by
    match ds, h with
    | [_, _, _, _, _], ⟨⟨x0, rfl⟩, ⟨x1, rfl⟩, ⟨x2, rfl⟩, ⟨x3, rfl⟩, ⟨x4, rfl⟩, _⟩ => exact ⟨⟨x0, x1, x2, x3, x4⟩, hd⟩
theorem qsk (N : Nat) : OpB N 75 5 fun d => ∃ x, d = qP x :=
  ((qe9 (N := N) Tryz.underlying75 [fun d => ∃ g, d = encG g, fun d => ∃ n, d = .int .i64 n, fun d => ∃ n, d = .int .i64 n] ⟨qri N, qg3 Tryz.underlying3, qg3 Tryz.underlying3, trivial⟩ (by kernel_rfl) (by kernel_rfl) (by kernel_rfl)).less (by omega)).to fun d ⟨ds, hd, h⟩ => by
    match ds, h with
    | [_, _, _], ⟨⟨x0, rfl⟩, ⟨x1, rfl⟩, ⟨x2, rfl⟩, _⟩ => exact ⟨⟨x0, x1, x2⟩, hd⟩
theorem qsx (N : Nat) : OpB N 38 1 fun d => ∃ l : List qas, d = .lst (l.map qP) := (qhd Tryz.underlying38 (by kernel_rfl) (by omega) (qsk N)).less (by omega)
theorem qtD (N : Nat) : OpB N 109 3 fun d => ∃ x : Int × At, d = encIt x :=
  ((qe9 (N := N) Tryz.underlying109 [fun d => ∃ n, d = .int .i64 n, fun d => ∃ a, d = encA a] ⟨qg3 Tryz.underlying3, qoA N, trivial⟩ (by kernel_rfl) (by kernel_rfl) (by kernel_rfl)).less (by omega)).to fun d ⟨ds, hd, h⟩ => by
    match ds, h with
    | [_, _], ⟨⟨x0, rfl⟩, ⟨x1, rfl⟩, _⟩ => exact ⟨(x0, x1), hd⟩
theorem qtj (N : Nat) : OpB N 39 1 fun d => ∃ l : List (Int × At), d = .lst (l.map encIt) := (qhd Tryz.underlying39 (by kernel_rfl) (by omega) (qtD N)).less (by omega)
theorem qug (N : Nat) : OpB N 116 5 fun d => ∃ x : Int × T, d = encP x :=
  ((qe9 (N := N) Tryz.underlying116 [fun d => ∃ n, d = .int .i64 n, fun d => ∃ t, d = encT t] ⟨qg3 Tryz.underlying3, qoH N, trivial⟩ (by kernel_rfl) (by kernel_rfl) (by kernel_rfl)).less (by omega)).to fun d ⟨ds, hd, h⟩ => by
    match ds, h with
    | [_, _], ⟨⟨x0, rfl⟩, ⟨x1, rfl⟩, _⟩ => exact ⟨(x0, x1), hd⟩
theorem qqk (N : Nat) : OpB N 41 1 fun d => ∃ l : List (Int × T), d = .lst (l.map encP) := (qhd Tryz.underlying41 (by kernel_rfl) (by omega) (qug N)).less (by omega)
theorem qtC (N : Nat) : OpB N 123 2 fun d => ∃ x, d = qq x :=
  ((qe9 (N := N) Tryz.underlying123 [fun d => ∃ n, d = .int .i64 n, fun d => ∃ l : List Int, d = .lst (l.map (D.int .i64))] ⟨qg3 Tryz.underlying3, qjg N, trivial⟩ (by kernel_rfl) (by kernel_rfl) (by kernel_rfl)).less (by omega)).to fun d ⟨ds, hd, h⟩ => by
    match ds, h with
    | [_, _], ⟨⟨x0, rfl⟩, ⟨x1, rfl⟩, _⟩ => exact ⟨⟨x0, x1⟩, hd⟩
theorem qs3 (N : Nat) : OpB N 42 1 fun d => ∃ l : List qZ, d = .lst (l.map qq) := (qhd Tryz.underlying42 (by kernel_rfl) (by omega) (qtC N)).less (by omega)
theorem qrI (N : Nat) : OpB N 44 7 fun d => ∃ x, d = qae x :=
  ((qe9 (N := N) Tryz.underlying44 [fun d => ∃ l : List qas, d = .lst (l.map qP), fun d => ∃ l : List (Int × At), d = .lst (l.map encIt), fun d => ∃ l : List (Int × T), d = .lst (l.map encP), fun d => ∃ l : List qZ, d = .lst (l.map qq), fun d => ∃ n, d = .int .i64 n, fun d => ∃ n, d = .int .i64 n, fun d => ∃ b, d = .bool b] ⟨qsx N, qtj N, qqk N, qs3 N, qg3 Tryz.underlying3, qg3 Tryz.underlying3, qq6 Tryz.underlying4, trivial⟩ (by kernel_rfl) (by kernel_rfl) (by kernel_rfl)).less (by omega)).to fun d ⟨ds, hd, h⟩ => by
    match ds, h with
    | [_, _, _, _, _, _, _], ⟨⟨x0, rfl⟩, ⟨x1, rfl⟩, ⟨x2, rfl⟩, ⟨x3, rfl⟩, ⟨x4, rfl⟩, ⟨x5, rfl⟩, ⟨x6, rfl⟩, _⟩ => exact ⟨⟨x0, x1, x2, x3, x4, x5, x6⟩, hd⟩
def bConfig : ArgB := ⟨_, _, _, qrI, (qnL Tryz.underlying44).to fun _ ⟨_, h⟩ => ⟨_, h⟩⟩
def bMemory : ArgB := ⟨_, _, _, qr2, (qnL Tryz.underlying55).to fun _ ⟨_, h⟩ => ⟨_, h⟩⟩
theorem qqm {c : qar} (h : bulkD (qae c) ≤ 1048576) : ConfigB c := by
  simp only [qae, bulkD, bulkDs] at h
  refine ⟨fun x hx => ?_, fun x hx => ?_, fun x hx => ?_⟩
  · have h1 := qg9 (f := qP) hx
    simp only [qP, bulkD, bulkDs] at h1
    have := qqD (g := x.f0_Goal) (by omega)
    omega
  · have h1 := qg9 (f := encIt) hx
    simp only [encIt, bulkD, bulkDs] at h1
    have := qo5 (a := x.2) (by omega)
    omega
  · have h1 := qg9 (f := encP) hx
    have h2 : bulkD (encT x.2) + 2 ≤ bulkD (encP x) := by
      simp only [encP, bulkD, bulkDs]
      omega
    have h3 := qsK x.2
    omega
end Go.Proofs.YtdoljfkjdfaakaaGreat
namespace Go.Proofs.YtdoljfkjdfaakaaGreat
set_option maxRecDepth 100000
open Go.RowKit
theorem qpT {r : Option (List Int)} {lo hi n : Int} {s : Option (List Int)} (h : Ok r) (hr : r = catO (eNum lo hi n) s) : (((r.getD []).length : Int) == 0) = false := by
  obtain ⟨e, he⟩ := h
  rw [he, Option.getD_some]
  exact qvO (qtW (by rw [← hr]; exact he))
theorem qsX (p : qI) (c : qar) (m : qab) (hd : ∀ d ∈ p.f0_Decls, d.f0_Name.size ≤ 9223372036854775807) (hr : ∀ r ∈ p.f1_Rules, (RuleW r ∧ r.f0_Name.size ≤ 9223372036854775807) ∧ r.f1_Keep.length ≤ 10000000 ∧ r.f2_Remove.length ≤ 10000000) (hc : ConfigB c) (hm : MemM m) (hn : (∀ x ∈ m.f0_Facts, x.f1_Atom.n.size ≤ 9223372036854775807) ∧ ∀ x ∈ m.f1_Past, x.f1_Atom.n.size ≤ 9223372036854775807) : qdm 30 p c m = some true := by
  unfold qdm
  simp only [ex52, Option.bind_some]
  obtain ⟨b1, f1, g1⟩ := progs23 p (fun r h => (hr r h).1.1) fun r h => (hr r h).2
  rw [f1, Option.bind_some]
  refine cT (fun _ => rfl) fun h1 => ?_
  have h1 := g1 (by simpa using h1)
  obtain ⟨b2, f2, g2⟩ := qtI c hc
  rw [f2, Option.bind_some]
  refine cT (fun _ => rfl) fun h2 => ?_
  have h2 := g2 (by simpa using h2)
  obtain ⟨b3, f3, g3⟩ := qvr m hn
  rw [f3, Option.bind_some]
  refine cT (fun _ => rfl) fun _ => ?_
  have hp : ProgM p := ⟨hd, fun r h => ⟨h1.1 r h, (hr r h).1.1, (hr r h).1.2⟩, h1.2⟩
  have hw := qta (fuel := 30) (by omega) c h2
  have hw2 := qsU (fuel := 30) (by omega) m (fun x hx => (hm.f x hx).1) fun x hx => (hm.p x hx).1
  obtain ⟨b5, f5, g5⟩ := right50 (fuel := 30) (by omega) p hp m hm
  have half : ((qc3 30 p m).bind fun r_14 => bif r_14 then ((qdQ 30 m).bind fun r_16 => bif ((r_16.length : Int) == (0 : Int)) then some false else some true) else some true) = some true := by
    rw [f5, Option.bind_some]
    refine cT (fun h5 => ?_) fun _ => rfl
    rw [hw2, Option.bind_some, qpT (g5 h5) rfl]
    rfl
  obtain ⟨b4, f4, g4⟩ := right26 (fuel := 30) (by omega) p hp c h2
  rw [f4, Option.bind_some]
  refine cT (fun h4 => ?_) fun _ => half
  rw [hw, Option.bind_some, qpT (g4 h4) rfl]
  exact half
/-! ### bulk -/
theorem qtx (d : D) : 1 ≤ bulkD d := by
  cases d <;> simp [bulkD]
theorem qlL {α : Type} {f : α → D} : ∀ l : List α, l.length ≤ bulkDs (l.map f)
  | [] => by simp
  | x :: l => by
    have h1 := qtx (f x)
    have h2 := qlL (f := f) l
    simp only [List.map_cons, bulkDs, List.length_cons]
    omega
theorem qnE {p : qI} (h : bulkD (qn p) ≤ 1048576) : (∀ d ∈ p.f0_Decls, d.f0_Name.size ≤ 9223372036854775807) ∧ ∀ r ∈ p.f1_Rules, (RuleW r ∧ r.f0_Name.size ≤ 9223372036854775807) ∧ r.f1_Keep.length ≤ 10000000 ∧ r.f2_Remove.length ≤ 10000000 := by
  have hb := qs0 h
  simp only [qn, bulkD, bulkDs] at h
  refine ⟨fun d hd => ?_, fun r hr => ?_⟩
  · have h1 := qg9 (f := qt) hd
    simp only [qt, bulkD, bulkDs] at h1
    omega
  · have h1 := qg9 (f := qm) hr
    simp only [qm, bulkD, bulkDs] at h1
    have k1 := qlL (f := encA) r.f1_Keep
    have k2 := qlL (f := encA) r.f2_Remove
    obtain ⟨a, b, c, d⟩ := hb r hr
    exact ⟨⟨⟨fun x hx => by have := a x hx; omega, fun x hx => by have := b x hx; omega, fun x hx => by have := c x hx; omega, fun x hx => by have := d x hx; omega⟩, by omega⟩, by omega, by omega⟩
theorem qrE {m : qab} (h : bulkD (qx m) ≤ 1048576) : MemM m := by
  simp only [qx, bulkD, bulkDs] at h
  have n1 := qlL (f := qu) m.f0_Facts
  have n2 := qlL (f := qu) m.f1_Past
  have one : ∀ x : qX, bulkD (qu x) ≤ 1048576 → wtL x.f1_Atom.ts ≤ 1000000000 ∧ x.f2_Just.length ≤ 10000000 := fun x hx => by
    have k := qlL (f := D.int .i64) x.f2_Just
    have h2 : bulkD (encA x.f1_Atom) ≤ bulkD (qu x) := by
      simp only [qu, bulkD, bulkDs]
      omega
    have h3 := qo5 (a := x.f1_Atom) (by omega)
    simp only [qu, bulkD, bulkDs] at hx
    exact ⟨by omega, by omega⟩
  refine ⟨fun x hx => ?_, fun x hx => ?_, by omega, by omega⟩
  · have := qg9 (f := qu) hx
    exact one x (by omega)
  · have := qg9 (f := qu) hx
    exact one x (by omega)
theorem qlT (p : qI) (c : qar) (m : qab) (hb : bulkD (qn p) ≤ 1048576 ∧ bulkD (qae c) ≤ 1048576 ∧ bulkD (qx m) ≤ 1048576) : Gives Tryz.prog 6 [qn p, qae c, qx m] (.bool true) := fun w q vs hi hv => by
  have hv' := hv
  simp only [Repl] at hv'
  obtain ⟨_, _, _, _, _, _, _, _, v, _, _, h, _⟩ := hv'
  exact qir 30 p c m true (qsX p c m (qnE hb.1).1 (qnE hb.1).2 (qqm hb.2.1) (qrE hb.2.2) (qvz h)) w q vs hi hv
end Go.Proofs.YtdoljfkjdfaakaaGreat
