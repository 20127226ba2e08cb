/-
  Texts of the seat, merged.
-/
import Derived.Test.YtdoljfkjdfaakaaGreatLTA
import Derived.Test.YtdoljfkjdfaakaaGreatLTB
import Derived.Test.YtdoljfkjdfaakaaGreatLTC
import Derived.Test.YtdoljfkjdfaakaaGreatLTD
import Derived.Test.YtdoljfkjdfaakaaGreatLTE
import Derived.Test.YtdoljfkjdfaakaaGreatLTF
import Derived.Test.YtdoljfkjdfaakaaGreatLTG
import Derived.Test.YtdoljfkjdfaakaaGreatLTH
import Derived.Test.YtdoljfkjdfaakaaGreatLTI
import Derived.Test.YtdoljfkjdfaakaaGreatChecked
import Derived.WalkKit
import Derived.Lib.Hide
import Derived.Lib.AppendStr
import Derived.Deep.AppendLies
import Derived.Deep.AppendSrc
import Derived.Deep.Draws
import Derived.Deep.QuietTactic
import Derived.BigQuiet
import Derived.Deep.RegionWith
import Derived.Maps.AppendAt
import Derived.WalkSpells
import Derived.Orders
import Derived.Deep.Slices
import Derived.Deep.Fields
import Derived.ChangeArms
import Derived.Lib.OthersKept
import Derived.Lib.TrimU
import Derived.Lib.IndexAny
import Derived.Deep.LoopGhost
import Derived.Lib.Bytealg
import Derived.RangeFuncBox
import Derived.RangeFuncNested
import Derived.RangeFuncBound
import Derived.RangeFuncCalls
import Derived.RangeFuncLeaves
import Derived.Shelf.Abstract
import Derived.OwnWalkIn
import Derived.TacticsInMore
import Derived.LoopNIn
import Derived.LoopIn
import Derived.RangeFuncWrites
import Derived.Maps.OwnIn
import Derived.Maps.Views
import Derived.Laws.OwnMore
import Derived.Maps.OwnSet
import Derived.Laws.IdiomStrings
import Derived.Test.YtdoljfkjdfaakaaGreatRows
import Derived.ProofKit
import Derived.OpenShut
import Derived.Carry
import Derived.OrdersIn
import Derived.Great.BuildSlice
import Derived.ArgAppend
import Derived.Laws.MakeOwn
import Derived.Laws.Cover3
import Derived.Laws.CopyRow
import Derived.MapKept
import Derived.Maps.RangeRun
import Derived.DeepKeys5
import Derived.WideKeyRuns
import Derived.RangeFuncOwn
import Derived.Defers
import Derived.Recover
import Derived.Tactics
import Derived.Tactics2
set_option linter.unusedVariables false
set_option linter.unusedSimpArgs false
set_option linter.unnecessarySimpa false
set_option linter.all false
namespace Go.Proofs.YtdoljfkjdfaakaaGreat
set_option maxRecDepth 100000
open Go.RowKit
/-! ### writers -/
def catO (r s : Option (List Int)) : Option (List Int) := r.bind fun a => s.bind fun b => some (a ++ b)
theorem qpX (r : Option (List Int)) : catO r (some []) = r := by cases r <;> simp [catO]
theorem qnX {r s : Option (List Int)} {e : List Int} (h : catO r s = some e) : ∃ a b, r = some a ∧ s = some b ∧ e = a ++ b := by
  cases r <;> cases s <;> simp [catO] at h
  exact ⟨_, _, rfl, rfl, h.symm⟩
def OkW (r : Option (List Int)) (b b' : List Int) (bad' : Bool) : Prop := match r with
  | none => bad' = true
  | some e => bad' = false ∧ b' = b ++ e
def Wr {W : Type} (mk : List Int → Bool → W) (f : W → Option W) (N : Nat) (r : Option (List Int)) : Prop :=
  ∀ b bad, b.length + N ≤ 1000000000 → ∃ b' bad', f (mk b bad) = some (mk b' bad') ∧ b'.length ≤ b.length + N ∧ (bad = true → bad' = true) ∧ (bad = false → OkW r b b' bad')
section
variable {W α β : Type} {mk : List Int → Bool → W} {f g : W → Option W} {N M : Nat} {r s : Option (List Int)}
theorem Wr.pure : Wr mk some 0 (some []) := fun b bad _ => ⟨b, bad, rfl, by omega, id, fun h => ⟨h, by simp⟩⟩
theorem Wr.bind (hf : Wr mk f N r) (hg : Wr mk g M s) : Wr mk (fun c => (f c).bind g) (N + M) (catO r s) := fun b bad hb => by
  obtain ⟨b1, bad1, e1, l1, m1, o1⟩ := hf b bad (by omega)
  obtain ⟨b2, bad2, e2, l2, m2, o2⟩ := hg b1 bad1 (by omega)
  refine ⟨b2, bad2, by simp only [e1]; exact e2, by omega, fun h => m2 (m1 h), fun h => ?_⟩
  have o1 := o1 h
  cases r with
  | none => exact m2 o1
  | some x =>
    obtain ⟨rfl, rfl⟩ := o1
    have o2 := o2 rfl
    cases s with
    | none => exact o2
    | some y => exact ⟨o2.1, by rw [o2.2, List.append_assoc]⟩
theorem Wr.le (h : Wr mk f N r) (hn : N ≤ M) : Wr mk f M r := fun b bad hb => by
  obtain ⟨b1, bad1, e1, l1, m1, o1⟩ := h b bad (by omega)
  exact ⟨b1, bad1, e1, by omega, m1, o1⟩
theorem Wr.eq (h : Wr mk f N r) (he : r = s) : Wr mk f N s := he ▸ h
theorem Wr.last (h : Wr mk f N r) : Wr mk (fun c => (f c).bind fun x => some x) N r := (Wr.bind h Wr.pure).eq (qpX r)
def runW (put : α → W → Option W) : List α → W → Option W
  | [], c => some c
  | x :: l, c => (put x c).bind (runW put l)
def eCat (e : α → Option (List Int)) : List α → Option (List Int)
  | [] => some []
  | x :: l => catO (e x) (eCat e l)
theorem qj9 {put : α → W → Option W} {e : α → Option (List Int)} {n : Nat} : ∀ (l : List α), (∀ x ∈ l, Wr mk (put x) n (e x)) → Wr mk (runW put l) (l.length * n) (eCat e l)
  | [], _ => (Wr.pure : Wr mk some 0 (some [])).le (Nat.zero_le _)
  | x :: l, h => ((h x (by simp)).bind (qj9 l fun y hy => h y (by simp [hy]))).le (by simp only [List.length_cons, Nat.add_mul]; omega)
def eNum (lo hi n : Int) : Option (List Int) := if lo ≤ n ∧ n ≤ hi then some (encN n) else none
def eText (s : ByteArray) : Option (List Int) := if s.size ≤ 40 then some (encN s.size ++ toY s.data.toList) else none
def eBool (x : Bool) : Option (List Int) := some [bif x then 1 else 0]
def eList (most : Int) (e : α → Option (List Int)) (l : List α) : Option (List Int) := catO (eNum 0 most (l.length : Int)) (eCat e l)
def eNums (most hi : Int) : List Int → Option (List Int) := eList most (eNum 0 hi)
mutual
def bT : T → List Int
  | .mk k i s ar => encN k ++ (if k = 2 then (encN s.size ++ toY s.data.toList) ++ (encN ar.length ++ bL ar) else encN i)
def bL : List T → List Int
  | [] => []
  | t :: l => bT t ++ bL l
end
noncomputable def eT (t : T) : Option (List Int) := if rightT t = true then some (bT t) else none
def bArgs (n : ByteArray) (ts : List T) : List Int := (encN n.size ++ toY n.data.toList) ++ (encN ts.length ++ bL ts)
noncomputable def eAtom (a : At) : Option (List Int) := if rightA a = true then some (bArgs a.n a.ts) else none
noncomputable def eGoal (g : Gl) : Option (List Int) := if rightG g = true then some (encN g.op ++ bArgs g.n g.ts) else none
def eDecl (d : S_api_Decl) : Option (List Int) := catO (eText d.f0_Name) (eNum 0 6 d.f1_Arity)
noncomputable def eRule (r : qak) : Option (List Int) := catO (eText r.f0_Name) (catO (eList 4 eAtom r.f1_Keep) (catO (eList 4 eAtom r.f2_Remove) (catO (eList 12 eGoal r.f3_Guard) (catO (eList 12 eGoal r.f4_Body) (eNum 0 1048576 r.f5_Vars)))))
noncomputable def eProgram (p : qad) : Option (List Int) := catO (eNum 1 1 1) (catO (eList 30 eDecl p.f0_Decls) (eList 40 eRule p.f1_Rules))
noncomputable def eFrame (f : qL) : Option (List Int) := catO (eNum 0 2147483648 f.f1_ID) (catO (eNum (-1) 2147483648 f.f2_Occ) (if f.f1_ID = 0 then eGoal f.f0_Goal else if f.f0_Goal.op = 0 ∧ f.f0_Goal.n.toList = [] ∧ f.f0_Goal.ts = [] then some [] else none))
noncomputable def eItem (x : Int × At) : Option (List Int) := catO (eNum 0 2147483648 x.1) (eAtom x.2)
noncomputable def eBind (x : Int × T) : Option (List Int) := catO (eNum 0 1048576 x.1) (eT x.2)
def eFire (x : qY) : Option (List Int) := catO (eNum 0 40 x.f0_Rule) (eNums 4 2147483648 x.f1_IDs)
noncomputable def eConfig (c : qai) : Option (List Int) := catO (eNum 2 2 2) (catO (eList 1000 eFrame c.f0_Stack) (catO (eList 500 eItem c.f1_Store) (catO (eList 1048576 eBind c.f2_Binds) (catO (eList 5000 eFire c.f3_Fired) (catO (eNum 0 2147483648 c.f4_Next) (catO (eNum 0 1048576 c.f5_Fresh) (eBool c.f6_Failed)))))))
noncomputable def eFact (x : qZ) : Option (List Int) := catO (eNum 0 2147483648 x.f0_ID) (catO (eAtom x.f1_Atom) (eNums 64 64 x.f2_Just))
def eApplied (x : qah) : Option (List Int) := catO (eNum 0 40 x.f0_Rule) (catO (eNums 4 2147483648 x.f1_Heads) (catO (eNums 4 2147483648 x.f2_Gone) (catO (eNums 12 2147483648 x.f3_Made) (catO (eBool x.f4_Failed) (eNums 64 64 x.f5_Just)))))
noncomputable def eMemory (m : qas) : Option (List Int) := catO (eNum 3 3 3) (catO (eList 5000 eFact m.f0_Facts) (catO (eList 5000 eFact m.f1_Past) (catO (eList 5000 eApplied m.f2_Log) (catO (eNum 0 2147483648 m.f3_Next) (eNum 0 64 m.f4_Given)))))
theorem qpJ (n : Int) : (encN n).length ≤ 10 := by
  unfold encN
  rw [qhb, List.length_take]
  omega
theorem qr9 (s : ByteArray) : (encN s.size ++ toY s.data.toList).length ≤ 10 + s.size := by
  have := qpJ s.size
  rw [List.length_append, qhb]
  have : s.data.toList.length = s.size := Array.length_toList
  omega
theorem qiO {num : W → Option W} {L : W → Option W} {bad : W → Bool} (hbad : ∀ b x, bad (mk b x) = x) {most : Int} {e : α → Option (List Int)} {l : List α} {n m : Nat} (hm : (l.length : Int) ≤ most → l.length ≤ m)
    (hn : Wr mk num 10 (eNum 0 most (l.length : Int))) (hl : Wr mk L (l.length * n) (eCat e l)) : Wr mk (fun c => (num c).bind fun r => bif bad r then some r else L r) (10 + m * n) (eList most e l) := fun b bd hb => by
  obtain ⟨b1, bad1, e1, l1, m1, o1⟩ := hn b bd (by omega)
  simp only [e1, Option.bind_some, hbad]
  cases bad1 with
  | true =>
    refine ⟨b1, true, rfl, by omega, fun _ => rfl, fun h => ?_⟩
    have o1 := o1 h
    unfold eList eNum at *
    split at o1
    · cases o1.1
    · rename_i h1
      rw [if_neg h1]
      rfl
  | false =>
    have hbd : bd = false := by
      cases bd
      · rfl
      · exact absurd (m1 rfl) (by simp)
    have o1 := o1 hbd
    have h1 : 0 ≤ (l.length : Int) ∧ (l.length : Int) ≤ most := by
      unfold eNum at o1
      split at o1
      · assumption
      · cases o1
    have h2 : l.length * n ≤ m * n := Nat.mul_le_mul_right _ (hm h1.2)
    obtain ⟨b2, bad2, e2, l2, m2, o2⟩ := hl b1 false (by omega)
    refine ⟨b2, bad2, e2, by omega, fun h => absurd (h.symm.trans hbd) (by simp), fun _ => ?_⟩
    have o2 := o2 rfl
    unfold eList
    unfold eNum at *
    rw [if_pos h1] at o1 ⊢
    cases hc : eCat e l with
    | none =>
      rw [hc] at o2
      exact o2
    | some y =>
      rw [hc] at o2
      exact ⟨o2.1, by rw [o2.2, o1.2, List.append_assoc]⟩
end
theorem Wr.congr {W : Type} {mk : List Int → Bool → W} {f g : W → Option W} {N : Nat} {r : Option (List Int)} (h : Wr mk f N r) (he : ∀ c, f c = g c) : Wr mk g N r := by
  have : f = g := funext he
  subst this
  exact h
theorem qry {lo hi n : Int} {b : List Int} {bad : Bool} (h : bad = true ↔ ¬(lo ≤ n ∧ n ≤ hi)) : OkW (eNum lo hi n) b (b ++ encN n) bad := by
  unfold eNum
  split
  · rename_i h1
    refine ⟨?_, rfl⟩
    cases bad
    · rfl
    · exact absurd h1 (h.1 rfl)
  · rename_i h1
    exact h.2 h1
theorem qrX {s : ByteArray} {b b' : List Int} {bad : Bool} (h : bad = true ↔ ¬(s.size ≤ 40)) (hb : s.size ≤ 40 → b' = b ++ (encN s.size ++ toY s.data.toList)) : OkW (eText s) b b' bad := by
  unfold eText
  split
  · rename_i h1
    refine ⟨?_, hb h1⟩
    cases bad
    · rfl
    · exact absurd h1 (h.1 rfl)
  · rename_i h1
    exact h.2 h1
theorem qkl {lo hi n : Int} (h1 : lo ≤ n) (h2 : n ≤ hi) : eNum lo hi n = some (encN n) := if_pos ⟨h1, h2⟩
theorem qlY {s : ByteArray} (h : s.size ≤ 40) : eText s = some (encN s.size ++ toY s.data.toList) := if_pos h
theorem qtx (a b : List Int) : catO (some a) (some b) = some (a ++ b) := rfl
theorem qo5 {s : ByteArray} (h : s.toList = []) : s = ⟨#[]⟩ := by
  obtain ⟨⟨l⟩⟩ := s
  rw [Lib.toList_data] at h
  subst h
  rfl
theorem nilB : (⟨#[]⟩ : ByteArray).toList = [] := by rw [Lib.toList_data]
theorem qr5 {s : ByteArray} (h : s.toList = []) : s.size = 0 := by rw [qo5 h]; rfl
theorem qtp {s : ByteArray} (h : isOp s = true) : s.size = 1 := by
  unfold isOp at h
  rw [decide_eq_true_eq] at h
  have : s.size = s.toList.length := (qjN s).symm
  rcases h with h | h | h | h | h <;> rw [this, h] <;> rfl
theorem qom {s : ByteArray} (h : isName s = true) : s.size ≤ 40 := by
  unfold isName at h
  simp only [Bool.and_eq_true] at h
  exact (qiT h.1.1).2.1
theorem qtC {t : T} (h : formT t = true) : t.k = 0 ∨ t.k = 1 ∨ t.k = 2 := by
  rcases Classical.em (t.k = 0) with h0 | h0
  · exact .inl h0
  rcases Classical.em (t.k = 1) with h1 | h1
  · exact .inr (.inl h1)
  rcases Classical.em (t.k = 2) with h2 | h2
  · exact .inr (.inr h2)
  rw [qoK h0 h1 h2] at h
  cases h
theorem qn2 {t : T} (h : formT t = true) (k : t.k = 2) : t.i = 0 ∧ t.s.size ≤ 40 ∧ t.ar.length ≤ 6 ∧ formL t.ar = true := by
  rw [qnm k, Bool.and_eq_true] at h
  obtain ⟨h1, h2⟩ := h
  unfold headF at h1
  simp only [Bool.and_eq_true, Bool.or_eq_true, decide_eq_true_eq] at h1
  obtain ⟨h3, h4 | h4⟩ := h1
  · exact ⟨h3, by rw [qtp h4.1]; omega, by omega, h2⟩
  · exact ⟨h3, qom h4.1, h4.2, h2⟩
theorem bT_2 {t : T} (k : t.k = 2) : bT t = encN t.k ++ ((encN t.s.size ++ toY t.s.data.toList) ++ (encN t.ar.length ++ bL t.ar)) := by
  cases t
  simp only [T.k] at k
  subst k
  rfl
theorem bT_n {t : T} (k : t.k ≠ 2) : bT t = encN t.k ++ encN t.i := by
  cases t
  simp only [T.k] at k
  simp only [bT, if_neg k, T.k, T.i]
theorem qrn {l : List T} (h : rightL l = true) : formL l = true ∧ sizeL l ≤ 200 ∧ depthL l ≤ 20 := by
  unfold rightL at h
  simp only [Bool.and_eq_true, decide_eq_true_eq] at h
  exact ⟨h.1.1, h.1.2, h.2⟩
theorem qqU {t : T} (h : rightT t = true) : formT t = true ∧ sizeT t ≤ 200 ∧ depthT t ≤ 20 := by
  unfold rightT at h
  simp only [Bool.and_eq_true, decide_eq_true_eq] at h
  exact ⟨h.1.1, h.1.2, h.2⟩
theorem qnT {a : At} (h : rightA a = true) : a.n.size ≤ 40 ∧ a.ts.length ≤ 6 ∧ rightL a.ts = true := by
  unfold rightA at h
  simp only [Bool.and_eq_true, decide_eq_true_eq] at h
  exact ⟨qom h.1.1, h.1.2, h.2⟩
theorem qrq {op : Int} {n : Nat} (h : arityG op = (n : Int)) : 1 ≤ op ∧ op ≤ 12 ∧ n ≤ 2 := by
  unfold arityG at h
  split at h
  · omega
  · split at h
    · omega
    · split at h <;> omega
theorem qnR {g : Gl} (h : rightG g = true) : 0 ≤ g.op ∧ g.op ≤ 12 ∧ g.n.size ≤ 40 ∧ g.ts.length ≤ 6 ∧ rightL g.ts = true := by
  unfold rightG at h
  split at h
  · rename_i h0
    obtain ⟨h1, h2, h3⟩ := qnT h
    exact ⟨by omega, by omega, h1, h2, h3⟩
  · simp only [Bool.and_eq_true, decide_eq_true_eq] at h
    obtain ⟨h1, h2, h3⟩ := qrq h.1.2
    exact ⟨by omega, by omega, by rw [qr5 h.1.1]; omega, by omega, h.2⟩
theorem qoL {t : T} (k : t.k = 2) : depthT t = depthL t.ar + 1 ∧ sizeT t = 1 + sizeL t.ar := by
  cases t
  simp only [T.k] at k
  subst k
  exact ⟨rfl, rfl⟩
theorem qsM (t : T) : 1 ≤ sizeT t := by rw [qkw]; omega
/-! ### The program -/
theorem qeq (n lo hi : Int) : Wr qa.mk (qt n lo hi) 10 (eNum lo hi n) := fun b bad hb => by
  have hl := qpJ n
  have hc : qjr b n = some (b ++ encN n) := if_pos (by omega)
  have hl2 : (b ++ encN n).length ≤ b.length + 10 := by
    rw [List.length_append]
    omega
  unfold qt
  simp only [hc, Option.bind_some]
  cases bad with
  | true => exact ⟨b ++ encN n, true, by simp only [cond_true], hl2, id, fun h => by cases h⟩
  | false =>
    simp only [cond_false]
    by_cases h1 : n < lo
    · exact ⟨b ++ encN n, true, by rw [decide_eq_true h1, cond_true], hl2, fun _ => rfl, fun _ => qry (by simp; omega)⟩
    · exact ⟨b ++ encN n, decide (n > hi), by rw [decide_eq_false h1, cond_false], hl2, fun h => (by cases h), fun _ => qry (by simp; omega)⟩
theorem qnH (s : ByteArray) {B : Nat} (hs : s.size ≤ B) : Wr qa.mk (qbG s) (10 + B) (eText s) := fun b bad hb => by
  have hl := qr9 s
  have hc : qjo b s = some (b ++ (encN s.size ++ toY s.data.toList)) := if_pos ⟨by omega, by omega⟩
  have hl2 : (b ++ (encN s.size ++ toY s.data.toList)).length ≤ b.length + (10 + B) := by
    rw [List.length_append]
    omega
  unfold qbG
  simp only [hc, Option.bind_some]
  cases bad with
  | true => exact ⟨_, true, by simp only [cond_true], hl2, id, fun h => by cases h⟩
  | false => exact ⟨_, decide ((s.size : Int) > 40), by simp only [cond_false], hl2, fun h => (by cases h), fun _ => qrX (by simp; omega) fun _ => rfl⟩
theorem qqV (x : Bool) : Wr qa.mk (fun c => (qiv c.f0_b x).bind fun r => some (⟨r, c.f1_bad⟩ : qa)) 1 (eBool x) := fun b bad hb => by
  have hc : qiv b x = some (b ++ [bif x then 1 else 0]) := if_pos (by omega)
  simp only [hc, Option.bind_some]
  exact ⟨_, bad, rfl, by simp, id, fun h => ⟨h, rfl⟩⟩
theorem qqK (rec : List T → Int → qa → Option qa) (k : qa → Option qa) : ∀ l c, qb2 k rec l c = (runW (qaI rec) l c).bind k
  | [], c => rfl
  | x :: l, c => by
    rw [qb2, runW, Option.bind_assoc]
    congr 1
    funext r
    exact qqK rec k l r
theorem qsV {rec : List T → Int → qa → Option qa} : ∀ (l : List T), formL l = true → (∀ t ∈ l, formT t = true → Wr qa.mk (qaI rec t) (70 * sizeT t) (some (bT t))) → Wr qa.mk (runW (qaI rec) l) (70 * sizeL l) (some (bL l))
  | [], _, _ => Wr.pure
  | x :: l, hf, h => by
    simp only [formL, Bool.and_eq_true] at hf
    exact (((h x (by simp) hf.1).bind (qsV l hf.2 fun y hy => h y (by simp [hy]))).eq (qtx _ _)).le (by simp only [sizeL]; omega)
theorem qpW {rec : List T → Int → qa → Option qa} (t : T) (hf : formT t = true) (hr : t.k = 2 → Wr qa.mk (rec t.ar 6) (10 + 70 * sizeL t.ar) (some (encN t.ar.length ++ bL t.ar))) : Wr qa.mk (qaI rec t) (70 * sizeT t) (some (bT t)) := by
  have hp := qsM t
  rcases qtC hf with k | k | k
  · rw [qoB k, decide_eq_true_eq] at hf
    refine (((qeq t.k 0 2).bind (qeq t.i (-2147483648) 2147483648).last).le (M := 70 * sizeT t) (by omega)).eq (s := some (bT t)) ?_ |>.congr fun c => ?_
    · rw [qkl (by omega) (by omega), qkl (by omega) (by omega), bT_n (by omega)]
      rfl
    · unfold qaI
      simp [k]
  · rw [qpa k, decide_eq_true_eq] at hf
    refine (((qeq t.k 0 2).bind (qeq t.i 0 1048576).last).le (M := 70 * sizeT t) (by omega)).eq (s := some (bT t)) ?_ |>.congr fun c => ?_
    · rw [qkl (by omega) (by omega), qkl (by omega) (by omega), bT_n (by omega)]
      rfl
    · unfold qaI
      simp [k]
  · obtain ⟨f1, f2, f3, f4⟩ := qn2 hf k
    have hz := (qoL k).2
    refine (((qeq t.k 0 2).bind ((qnH t.s f2).bind (hr k).last)).le (M := 70 * sizeT t) (by omega)).eq (s := some (bT t)) ?_ |>.congr fun c => ?_
    · rw [qkl (by omega) (by omega), qlY f2, bT_2 k]
      rfl
    · unfold qaI
      simp [k]
theorem qmX {t : T} : ∀ {l : List T}, t ∈ l → depthT t ≤ depthL l
  | x :: l, h => by
    simp only [depthL]
    rcases List.mem_cons.1 h with rfl | h
    · omega
    · have := qmX h
      omega
theorem qdv {W : Type} (x : Option W) : (x.bind fun y => some y) = x := by cases x <;> rfl
theorem qo3 : ∀ (fuel : Nat) (l : List T), formL l = true → l.length ≤ 6 → depthL l < fuel → Wr qa.mk (qcp fuel l 6) (10 + 70 * sizeL l) (some (encN l.length ++ bL l))
  | 0, l, _, _, h => by omega
  | fuel + 1, l, hf, hl, hd => by
    have hrun := qsV (rec := qcp fuel) l hf fun t ht hft => qpW t hft fun k => qo3 fuel t.ar (qn2 hft k).2.2.2 (qn2 hft k).2.2.1 (by
      have := qmX ht
      have := (qoL k).1
      omega)
    refine fun b bad hb => ?_
    obtain ⟨b1, bad1, e1, l1, m1, o1⟩ := qeq (l.length : Int) 0 6 b bad (by omega)
    rw [qcp]
    simp only [e1, Option.bind_some, qqK, qdv]
    rw [qkl (by omega) (by omega)] at o1
    cases bad1 with
    | true =>
      refine ⟨b1, true, rfl, by omega, fun _ => rfl, fun h => ?_⟩
      exact absurd (o1 h).1 (by simp)
    | false =>
      have hbd : bad = false := by
        cases bad
        · rfl
        · exact absurd (m1 rfl) (by simp)
      obtain ⟨_, rfl⟩ := o1 hbd
      obtain ⟨b2, bad2, e2, l2, m2, o2⟩ := hrun (b ++ encN l.length) false (by omega)
      refine ⟨b2, bad2, e2, by omega, fun h => absurd (h.symm.trans hbd) (by simp), fun _ => ?_⟩
      obtain ⟨o3, o4⟩ := o2 rfl
      exact ⟨o3, by rw [o4, List.append_assoc]⟩
theorem qpw {fuel : Nat} (hfu : 21 ≤ fuel) (n : ByteArray) (l : List T) (hn : n.size ≤ 40) (hl : l.length ≤ 6) (hr : rightL l = true) : Wr qa.mk (qbR fuel n l) 14060 (some (bArgs n l)) := by
  obtain ⟨h1, h2, h3⟩ := qrn hr
  refine (((qnH n hn).bind (qo3 fuel l h1 hl (by omega)).last).le (M := 14060) (by omega)).eq (s := some (bArgs n l)) ?_
  rw [qlY hn]
  rfl
theorem qoG {fuel : Nat} (hfu : 21 ≤ fuel) (a : At) (ha : wtL a.ts ≤ 1000000000) : Wr qa.mk (qbK fuel a) 14060 (eAtom a) := fun b bad hb => by
  unfold qbK
  simp only [qmb _ ha, Option.bind_some, qdv]
  cases bad with
  | true => exact ⟨b, true, rfl, by omega, id, fun h => by cases h⟩
  | false =>
    simp only [cond_false]
    unfold eAtom
    by_cases hr : rightA a = true
    · obtain ⟨r1, r2, r3⟩ := qnT hr
      rw [if_pos hr, hr]
      obtain ⟨b', bad', e1, l1, m1, o1⟩ := qpw hfu a.n a.ts r1 r2 r3 b false hb
      exact ⟨b', bad', e1, l1, m1, fun _ => o1 rfl⟩
    · rw [if_neg hr, Bool.not_eq_true _ |>.mp hr]
      exact ⟨b, true, rfl, by omega, fun _ => rfl, fun _ => rfl⟩
theorem qrt {fuel : Nat} (hfu : 21 ≤ fuel) (g : Gl) (ha : wtL g.ts ≤ 1000000000) : Wr qa.mk (qbZ fuel g) 14070 (eGoal g) := fun b bad hb => by
  unfold qbZ
  simp only [qmJ _ ha, Option.bind_some, qdv]
  cases bad with
  | true => exact ⟨b, true, rfl, by omega, id, fun h => by cases h⟩
  | false =>
    simp only [cond_false]
    unfold eGoal
    by_cases hr : rightG g = true
    · obtain ⟨r0, r0', r1, r2, r3⟩ := qnR hr
      rw [if_pos hr, hr]
      have := ((qeq g.op 0 12).bind (qpw hfu g.n g.ts r1 r2 r3)).eq (s := some (encN g.op ++ bArgs g.n g.ts)) (by rw [qkl r0 r0']; rfl) b false hb
      obtain ⟨b', bad', e1, l1, m1, o1⟩ := this
      exact ⟨b', bad', e1, l1, m1, fun _ => o1 rfl⟩
    · rw [if_neg hr, Bool.not_eq_true _ |>.mp hr]
      exact ⟨b, true, rfl, by omega, fun _ => rfl, fun _ => rfl⟩
theorem qsl {fuel : Nat} (hfu : 21 ≤ fuel) (x : Int × T) (ha : wt x.2 ≤ 1000000000) : Wr qa.mk (qdC fuel x) 14010 (eBind x) := by
  refine ((qeq x.1 0 1048576).bind (g := fun r => bif r.f1_bad then (bif (!true) then (qdq fuel x.2 ⟨r.f0_b, true⟩) else some ⟨r.f0_b, true⟩) else (bif (!(!rightT x.2)) then (qdq fuel x.2 ⟨r.f0_b, !rightT x.2⟩) else some ⟨r.f0_b, !rightT x.2⟩)) (M := 14000) (s := eT x.2) ?_).congr fun c => ?_
  · intro b bad hb
    cases bad with
    | true => exact ⟨b, true, rfl, by omega, id, fun h => by cases h⟩
    | false =>
      simp only [cond_false]
      unfold eT
      by_cases hr : rightT x.2 = true
      · obtain ⟨r1, r2, r3⟩ := qqU hr
        rw [if_pos hr, hr]
        obtain ⟨b', bad', e1, l1, m1, o1⟩ := (qpW (rec := qcp fuel) x.2 r1 fun k => qo3 fuel x.2.ar (qn2 r1 k).2.2.2 (qn2 r1 k).2.2.1 (by have := (qoL k).1; omega)).le (M := 14000) (by omega) b false hb
        exact ⟨b', bad', e1, l1, m1, fun _ => o1 rfl⟩
      · rw [if_neg hr, Bool.not_eq_true _ |>.mp hr]
        exact ⟨b, true, rfl, by omega, fun _ => rfl, fun _ => rfl⟩
  · unfold qdC
    simp only [qmI _ ha, Option.bind_some, qdv]
theorem qsr {fuel : Nat} (hfu : 21 ≤ fuel) (f : qL) (ha : wtL f.f0_Goal.ts ≤ 1000000000) : Wr qa.mk (qct fuel f) 14090 (eFrame f) := by
  unfold qct
  refine ((qeq f.f1_ID 0 2147483648).bind ((qeq f.f2_Occ (-1) 2147483648).bind (M := 14070) ?_)).le (by omega)
  intro b bad hb
  by_cases h0 : f.f1_ID = 0
  · simp only [h0, qdv, beq_self_eq_true, cond_true, if_true]
    exact qrt hfu f.f0_Goal ha b bad hb
  · have h0' : (f.f1_ID == 0) = false := by simpa using h0
    simp only [h0', cond_false, if_neg h0]
    cases bad with
    | true => exact ⟨b, true, rfl, by omega, id, fun h => by cases h⟩
    | false =>
      simp only [cond_false]
      by_cases h1 : f.f0_Goal.op = 0
      · by_cases h2 : f.f0_Goal.n.toList = []
        · have e1 : (f.f0_Goal.op != 0) = false := by simp [h1]
          have e2 : (!(f.f0_Goal.n.toList == (⟨#[]⟩ : ByteArray).toList)) = false := by rw [h2, nilB]; rfl
          rw [e1, e2, cond_false, cond_false]
          refine ⟨b, _, rfl, by omega, fun h => (by cases h), fun _ => ?_⟩
          cases hts : f.f0_Goal.ts with
          | nil =>
            rw [if_pos ⟨h1, h2, rfl⟩]
            exact ⟨by simp, by simp⟩
          | cons x l =>
            rw [if_neg (by simp)]
            show _ = true
            simp
        · have e1 : (f.f0_Goal.op != 0) = false := by simp [h1]
          have e2 : (!(f.f0_Goal.n.toList == (⟨#[]⟩ : ByteArray).toList)) = true := by
            rw [Bool.not_eq_true', beq_eq_false_iff_ne, nilB]
            exact h2
          rw [e1, e2, cond_false, cond_true]
          exact ⟨b, true, rfl, by omega, fun _ => rfl, fun _ => by rw [if_neg (fun h => h2 h.2.1)]; rfl⟩
      · have e1 : (f.f0_Goal.op != 0) = true := by simpa using h1
        rw [e1, cond_true]
        exact ⟨b, true, rfl, by omega, fun _ => rfl, fun _ => by rw [if_neg (fun h => h1 h.1)]; rfl⟩
theorem qrE (k : qa → Option qa) (fuel : Nat) : ∀ l c, qcz k fuel l c = (runW (qbK fuel) l c).bind k
  | [], c => rfl
  | x :: l, c => by
    rw [qcz, runW, Option.bind_assoc]
    congr 1
    funext r
    exact qrE k fuel l r
theorem qpk {fuel : Nat} (hfu : 21 ≤ fuel) (l : List At) (ha : ∀ x ∈ l, wtL x.ts ≤ 1000000000) : Wr qa.mk (qea fuel l 4) (10 + 4 * 14060) (eList 4 eAtom l) := by
  unfold qea
  simp only [qrE, qdv]
  exact qiO (bad := qa.f1_bad) (fun _ _ => rfl) (fun h => by omega) (qeq _ 0 4) (qj9 l fun x hx => qoG hfu x (ha x hx))
theorem qrs (k : qa → Option qa) (fuel : Nat) : ∀ l c, qcJ k fuel l c = (runW (qbZ fuel) l c).bind k
  | [], c => rfl
  | x :: l, c => by
    rw [qcJ, runW, Option.bind_assoc]
    congr 1
    funext r
    exact qrs k fuel l r
theorem qpE {fuel : Nat} (hfu : 21 ≤ fuel) (l : List Gl) (ha : ∀ x ∈ l, wtL x.ts ≤ 1000000000) : Wr qa.mk (qef fuel l 12) (10 + 12 * 14070) (eList 12 eGoal l) := by
  unfold qef
  simp only [qrs, qdv]
  exact qiO (bad := qa.f1_bad) (fun _ _ => rfl) (fun h => by omega) (qeq _ 0 12) (qj9 l fun x hx => qrt hfu x (ha x hx))
theorem qtA (d : S_api_Decl) (hd : d.f0_Name.size ≤ 2000) : Wr qa.mk (qdj d) 2020 (eDecl d) := by
  unfold qdj
  exact ((qnH d.f0_Name hd).bind (qeq d.f1_Arity 0 6).last)
structure RuleS (x : qak) : Prop where
  n : x.f0_Name.size ≤ 2000
  k : ∀ y ∈ x.f1_Keep, wtL y.ts ≤ 1000000000
  r : ∀ y ∈ x.f2_Remove, wtL y.ts ≤ 1000000000
  g : ∀ y ∈ x.f3_Guard, wtL y.ts ≤ 1000000000
  b : ∀ y ∈ x.f4_Body, wtL y.ts ≤ 1000000000
theorem qtn {fuel : Nat} (hfu : 21 ≤ fuel) (r : qak) (h : RuleS r) : Wr qa.mk (qcW fuel r) 460000 (eRule r) := by
  unfold qcW
  exact ((qnH r.f0_Name h.n).bind ((qpk hfu r.f1_Keep h.k).bind ((qpk hfu r.f2_Remove h.r).bind ((qpE hfu r.f3_Guard h.g).bind ((qpE hfu r.f4_Body h.b).bind (qeq r.f5_Vars 0 1048576).last))))).le (by omega)
theorem qrK (k : qa → Option qa) : ∀ l c, qcF k l c = (runW (qdj) l c).bind k
  | [], c => rfl
  | x :: l, c => by
    rw [qcF, runW, Option.bind_assoc]
    congr 1
    funext r
    exact qrK k l r
theorem qsq (l : List S_api_Decl) (ha : ∀ x ∈ l, x.f0_Name.size ≤ 2000) : Wr qa.mk (qe1 l 30) (10 + 30 * 2020) (eList 30 eDecl l) := by
  unfold qe1
  simp only [qrK, qdv]
  exact qiO (bad := qa.f1_bad) (fun _ _ => rfl) (fun h => by omega) (qeq _ 0 30) (qj9 l fun x hx => qtA x (ha x hx))
theorem qq7 (k : qa → Option qa) (fuel : Nat) : ∀ l c, qcN k fuel l c = (runW (qcW fuel) l c).bind k
  | [], c => rfl
  | x :: l, c => by
    rw [qcN, runW, Option.bind_assoc]
    congr 1
    funext r
    exact qq7 k fuel l r
theorem qsj {fuel : Nat} (hfu : 21 ≤ fuel) (l : List qak) (ha : ∀ x ∈ l, RuleS x) : Wr qa.mk (qe0 fuel l 40) (10 + 40 * 460000) (eList 40 eRule l) := by
  unfold qe0
  simp only [qq7, qdv]
  exact qiO (bad := qa.f1_bad) (fun _ _ => rfl) (fun h => by omega) (qeq _ 0 40) (qj9 l fun x hx => qtn hfu x (ha x hx))
theorem qq6 (k : qa → Option qa) (fuel : Nat) : ∀ l c, qcC k fuel l c = (runW (qct fuel) l c).bind k
  | [], c => rfl
  | x :: l, c => by
    rw [qcC, runW, Option.bind_assoc]
    congr 1
    funext r
    exact qq6 k fuel l r
theorem qss {fuel : Nat} (hfu : 21 ≤ fuel) (l : List qL) (ha : ∀ x ∈ l, wtL x.f0_Goal.ts ≤ 1000000000) : Wr qa.mk (qe5 fuel l 1000) (10 + 1000 * 14090) (eList 1000 eFrame l) := by
  unfold qe5
  simp only [qq6, qdv]
  exact qiO (bad := qa.f1_bad) (fun _ _ => rfl) (fun h => by omega) (qeq _ 0 1000) (qj9 l fun x hx => qsr hfu x (ha x hx))
theorem qty {fuel : Nat} (hfu : 21 ≤ fuel) (x : Int × At) (ha : wtL x.2.ts ≤ 1000000000) : Wr qa.mk (qdx fuel x) 14070 (eItem x) := by
  unfold qdx
  exact ((qeq x.1 0 2147483648).bind (qoG hfu x.2 ha).last)
theorem qrR (k : qa → Option qa) (fuel : Nat) : ∀ l c, qcA k fuel l c = (runW (qdx fuel) l c).bind k
  | [], c => rfl
  | x :: l, c => by
    rw [qcA, runW, Option.bind_assoc]
    congr 1
    funext r
    exact qrR k fuel l r
theorem qr0 {fuel : Nat} (hfu : 21 ≤ fuel) (l : List (Int × At)) (ha : ∀ x ∈ l, wtL x.2.ts ≤ 1000000000) : Wr qa.mk (qeV fuel l 500) (10 + 500 * 14070) (eList 500 eItem l) := by
  unfold qeV
  simp only [qrR, qdv]
  exact qiO (bad := qa.f1_bad) (fun _ _ => rfl) (fun h => by omega) (qeq _ 0 500) (qj9 l fun x hx => qty hfu x (ha x hx))
theorem qrD (k : qa → Option qa) (fuel : Nat) : ∀ l c, qcM k fuel l c = (runW (qdC fuel) l c).bind k
  | [], c => rfl
  | x :: l, c => by
    rw [qcM, runW, Option.bind_assoc]
    congr 1
    funext r
    exact qrD k fuel l r
theorem qsH {fuel : Nat} (hfu : 21 ≤ fuel) (l : List (Int × T)) (ha : ∀ x ∈ l, wt x.2 ≤ 1000000000) : Wr qa.mk (qfa fuel l 1048576) (10 + l.length * 14010) (eList 1048576 eBind l) := by
  unfold qfa
  simp only [qrD, qdv]
  exact qiO (bad := qa.f1_bad) (fun _ _ => rfl) (fun _ => Nat.le_refl _) (qeq _ 0 1048576) (qj9 l fun x hx => qsl hfu x (ha x hx))
theorem qpz (k : qa → Option qa) (h : Int) : ∀ l c, qcj k h l c = (runW (fun x => qdn x h) l c).bind k
  | [], c => rfl
  | x :: l, c => by
    rw [qcj, runW, Option.bind_assoc]
    congr 1
    funext r
    exact qpz k h l r
theorem qlr (l : List Int) (most hi : Int) {m : Nat} (hm : most ≤ (m : Int)) : Wr qa.mk (qaL l most hi) (10 + m * 10) (eNums most hi l) := by
  unfold qaL qfs
  simp only [qpz, qdv]
  exact qiO (bad := qa.f1_bad) (fun _ _ => rfl) (fun h => by omega) (qeq _ 0 most) (qj9 l fun x hx => (qeq x 0 hi).last)
theorem qsY (x : qY) : Wr qa.mk (qdy x) 60 (eFire x) := by
  unfold qdy
  exact ((qeq x.f0_Rule 0 40).bind (qlr x.f1_IDs 4 2147483648 (m := 4) (by omega)).last)
theorem qrg (k : qa → Option qa) : ∀ l c, qcO k l c = (runW (qdy) l c).bind k
  | [], c => rfl
  | x :: l, c => by
    rw [qcO, runW, Option.bind_assoc]
    congr 1
    funext r
    exact qrg k l r
theorem qsa (l : List qY) : Wr qa.mk (qeS l 5000) (10 + 5000 * 60) (eList 5000 eFire l) := by
  unfold qeS
  simp only [qrg, qdv]
  exact qiO (bad := qa.f1_bad) (fun _ _ => rfl) (fun h => by omega) (qeq _ 0 5000) (qj9 l fun x hx => qsY x)
theorem qs0 {fuel : Nat} (hfu : 21 ≤ fuel) (x : qZ) (ha : wtL x.f1_Atom.ts ≤ 1000000000) : Wr qa.mk (qc2 fuel x) 15000 (eFact x) := by
  unfold qc2
  exact ((qeq x.f0_ID 0 2147483648).bind ((qoG hfu x.f1_Atom ha).bind (qlr x.f2_Just 64 64 (m := 64) (by omega)).last)).le (by omega)
theorem qqo (x : qah) : Wr qa.mk (qb6 x) 1000 (eApplied x) := by
  have h := ((qeq x.f0_Rule 0 40).bind ((qlr x.f1_Heads 4 2147483648 (m := 4) (by omega)).bind ((qlr x.f2_Gone 4 2147483648 (m := 4) (by omega)).bind ((qlr x.f3_Made 12 2147483648 (m := 12) (by omega)).bind ((qqV x.f4_Failed).bind (qlr x.f5_Just 64 64 (m := 64) (by omega)).last))))).le (M := 1000) (by omega)
  refine h.congr fun c => ?_
  unfold qb6
  simp only [Option.bind_assoc, Option.bind_some]
theorem qpD (k : qa → Option qa) (fuel : Nat) : ∀ l c, qck k fuel l c = (runW (qc2 fuel) l c).bind k
  | [], c => rfl
  | x :: l, c => by
    rw [qck, runW, Option.bind_assoc]
    congr 1
    funext r
    exact qpD k fuel l r
theorem qof {fuel : Nat} (hfu : 21 ≤ fuel) (l : List qZ) (ha : ∀ x ∈ l, wtL x.f1_Atom.ts ≤ 1000000000) : Wr qa.mk (qd8 fuel l 5000) (10 + 5000 * 15000) (eList 5000 eFact l) := by
  unfold qd8
  simp only [qpD, qdv]
  exact qiO (bad := qa.f1_bad) (fun _ _ => rfl) (fun h => by omega) (qeq _ 0 5000) (qj9 l fun x hx => qs0 hfu x (ha x hx))
theorem qpp (k : qa → Option qa) : ∀ l c, qcg k l c = (runW (qb6) l c).bind k
  | [], c => rfl
  | x :: l, c => by
    rw [qcg, runW, Option.bind_assoc]
    congr 1
    funext r
    exact qpp k l r
theorem qqC (l : List qah) : Wr qa.mk (qeC l 5000) (10 + 5000 * 1000) (eList 5000 eApplied l) := by
  unfold qeC
  simp only [qpp, qdv]
  exact qiO (bad := qa.f1_bad) (fun _ _ => rfl) (fun h => by omega) (qeq _ 0 5000) (qj9 l fun x hx => qqo x)
theorem qq0 {f : qa → Option qa} {N : Nat} {r : Option (List Int)} (h : Wr qa.mk f N r) (hN : N ≤ 1000000000) : ((f ⟨[], false⟩).bind fun c => qca c) = some (r.getD []) := by
  obtain ⟨b1, bad1, e1, l1, m1, o1⟩ := h [] false (by simpa using hN)
  rw [e1, Option.bind_some]
  have o1 := o1 rfl
  unfold qca
  cases r with
  | none =>
    have o1 : bad1 = true := o1
    subst o1
    rfl
  | some e =>
    obtain ⟨rfl, rfl⟩ := o1
    simp
theorem qp0 {fuel : Nat} (hfu : 21 ≤ fuel) (p : qad) (hd : ∀ x ∈ p.f0_Decls, x.f0_Name.size ≤ 2000) (hr : ∀ x ∈ p.f1_Rules, RuleS x) : qbX fuel p = some ((eProgram p).getD []) := by
  have h := ((qeq 1 1 1).bind ((qsq p.f0_Decls hd).bind (qsj hfu p.f1_Rules hr)))
  rw [← qq0 (r := eProgram p) h (by omega)]
  unfold qbX
  simp only [Option.bind_assoc, qdv]
structure ConfigS (c : qai) : Prop where
  k : ∀ x ∈ c.f0_Stack, wtL x.f0_Goal.ts ≤ 1000000000
  s : ∀ x ∈ c.f1_Store, wtL x.2.ts ≤ 1000000000
  b : ∀ x ∈ c.f2_Binds, wt x.2 ≤ 1000000000
  n : c.f2_Binds.length ≤ 50000
theorem qro {fuel : Nat} (hfu : 21 ≤ fuel) (c : qai) (h : ConfigS c) : qbW fuel c = some ((eConfig c).getD []) := by
  have hn := h.n
  have h := ((qeq 2 2 2).bind ((qss hfu c.f0_Stack h.k).bind ((qr0 hfu c.f1_Store h.s).bind ((qsH hfu c.f2_Binds h.b).bind ((qsa c.f3_Fired).bind ((qeq c.f4_Next 0 2147483648).bind ((qeq c.f5_Fresh 0 1048576).bind (qqV c.f6_Failed))))))))
  rw [← qq0 (r := eConfig c) h (by omega)]
  unfold qbW
  simp only [Option.bind_assoc, qdv, Option.bind_some]
theorem qqP {fuel : Nat} (hfu : 21 ≤ fuel) (m : qas) (h1 : ∀ x ∈ m.f0_Facts, wtL x.f1_Atom.ts ≤ 1000000000) (h2 : ∀ x ∈ m.f1_Past, wtL x.f1_Atom.ts ≤ 1000000000) : qbo fuel m = some ((eMemory m).getD []) := by
  have h := ((qeq 3 3 3).bind ((qof hfu m.f0_Facts h1).bind ((qof hfu m.f1_Past h2).bind ((qqC m.f2_Log).bind ((qeq m.f3_Next 0 2147483648).bind (qeq m.f4_Given 0 64))))))
  rw [← qq0 (r := eMemory m) h (by omega)]
  unfold qbo
  simp only [Option.bind_assoc, qdv]
/-! ### readers -/
abbrev RR := qb
def Rdr {α : Type} (f : RR → Option (Int ⊕ (α × RR))) (e : List Int) (x : α) : Prop :=
  (∀ a z : List Int, (a ++ e ++ z).length ≤ 1000000000 → f ⟨a ++ e ++ z, (a.length : Int)⟩ = some (.inr (x, ⟨a ++ e ++ z, ((a ++ e).length : Int)⟩))) ∧
  (∀ a t z : List Int, (a ++ t).length ≤ 1000000000 → z ≠ [] → e = t ++ z → f ⟨a ++ t, (a.length : Int)⟩ = some (.inl 4))
def RdO {α : Type} (f : RR → Option (Int ⊕ (α × RR))) (r : Option (List Int)) (x : α) : Prop := ∀ e, r = some e → Rdr f e x
section
variable {α β : Type} {f : RR → Option (Int ⊕ (α × RR))} {G : α × RR → Option (Int ⊕ (β × RR))} {x : α} {y : β} {e e' : List Int} {r s : Option (List Int)}
theorem Rdr.pure : Rdr (fun c => some (.inr (x, c))) [] x := by
  refine ⟨fun a z _ => by simp, fun a t z _ hz he => ?_⟩
  have := congrArg List.length he
  simp only [List.length_nil, List.length_append] at this
  exact absurd (List.eq_nil_of_length_eq_zero (by omega)) hz
theorem Rdr.bind (hf : Rdr f e x) (hg : Rdr (fun c => G (x, c)) e' y) : Rdr (fun c => bindX (f c) G) (e ++ e') y := by
  constructor
  · intro a z hl
    have h1 := hf.1 a (e' ++ z) (by simpa only [List.append_assoc] using hl)
    have h2 := hg.1 (a ++ e) z (by simpa only [List.append_assoc] using hl)
    simp only [List.append_assoc] at h1 h2 ⊢
    rw [h1]
    exact h2
  · intro a t z hl hz ht
    rcases List.append_eq_append_iff.1 ht with ⟨a', rfl, h2⟩ | ⟨c', rfl, h2⟩
    · have h1 := hf.1 a a' (by simpa only [List.append_assoc] using hl)
      have h3 := hg.2 (a ++ e) a' z (by simpa only [List.append_assoc] using hl) hz h2
      simp only [List.append_assoc] at h1 h3 ⊢
      rw [h1]
      exact h3
    · by_cases hc : c' = []
      · subst hc
        have h1 := hf.1 a [] (by simpa using hl)
        have h3 := hg.2 (a ++ t) [] e' (by simpa using hl) (by rw [List.nil_append] at h2; rw [← h2]; exact hz) rfl
        simp only [List.append_nil] at h1 h3
        show bindX (f _) G = _
        rw [h1]
        exact h3
      · show bindX (f _) G = _
        rw [hf.2 a t c' hl hc rfl]
        rfl
theorem Rdr.congr {g : RR → Option (Int ⊕ (α × RR))} (h : Rdr f e x) (hc : ∀ c, f c = g c) : Rdr g e x := by
  have : f = g := funext hc
  subst this
  exact h
theorem RdO.congr {g : RR → Option (Int ⊕ (α × RR))} (h : RdO f r x) (hc : ∀ c, f c = g c) : RdO g r x := fun e he => (h e he).congr hc
theorem RdO.bind (hf : RdO f r x) (hg : RdO (fun c => G (x, c)) s y) : RdO (fun c => bindX (f c) G) (catO r s) y := fun e he => by
  obtain ⟨a, b, h1, h2, rfl⟩ := qnX he
  exact (hf a h1).bind (hg b h2)
theorem RdO.last (hf : RdO f r x) (hg : ∀ c, G (x, c) = some (.inr (y, c))) : RdO (fun c => bindX (f c) G) r y := fun e he => by
  have := (hf e he).bind (G := G) ((Rdr.pure (x := y)).congr fun c => (hg c).symm)
  rwa [List.append_nil] at this
theorem RdO.eq (h : RdO f r x) (he : r = s) : RdO f s x := he ▸ h
end
theorem qhL {α β : Type} (a : α) (f : α → Option (Int ⊕ β)) : bindX (some (.inr a)) f = f a := rfl
theorem qj3 {α β γ : Type} (x : Option (Int ⊕ α)) (f : α → Option (Int ⊕ β)) (g : β → Option (Int ⊕ γ)) : bindX (bindX x f) g = bindX x fun a => bindX (f a) g := by
  cases x with
  | none => rfl
  | some s => cases s <;> rfl
def runT {α : Type} (one : RR → Option (Int ⊕ (α × RR))) (sz : Nat) : Nat → List α → RR → Option (Int ⊕ (List α × RR))
  | 0, out, c => some (.inr (out, c))
  | n + 1, out, c => bindX (one c) fun q => (appO sz out [q.1]).bind fun l => runT one sz n l q.2
theorem u64w {n : Int} (h0 : 0 ≤ n) (h1 : n < 18446744073709551616) : IntKind.u64.wrap n = n := by
  simp [IntKind.wrap, IntKind.bits, IntKind.signed]
  omega
theorem u8w {n : Int} (h0 : 0 ≤ n) (h1 : n < 256) : IntKind.u8.wrap n = n := by
  simp [IntKind.wrap, IntKind.bits, IntKind.signed]
  omega
theorem getY (B : List UInt8) (j : Nat) (h : j < B.length) : getI (toY B) (j : Int) = some ((B[j]'h).toNat : Int) := by
  rw [qnE]
  unfold toY
  rw [List.getElem?_map, List.getElem?_eq_getElem h]
  rfl
theorem tmod128 (c : Nat) : Int.tmod (c : Int) 128 = ((c % 128 : Nat) : Int) := by
  rw [Int.tmod_eq_emod_of_nonneg (by omega)]
  rfl
theorem pow9 {i : Nat} (h : i ≤ 9) : 128 ^ i ≤ 9223372036854775808 := by
  have := Nat.pow_le_pow_right (n := 128) (by omega) h
  omega
theorem step128 {acc i c : Nat} (hi : i ≤ 9) (ha : acc < 128 ^ i) (hc : c < 128) (h9 : i = 9 → c ≤ 1) : IntKind.u64.wrap ((acc : Int) + (IntKind.u64.wrap (((128 ^ i : Nat) : Int) * (IntKind.u64.wrap (IntKind.u8.wrap ((c : Nat) : Int)))))) = ((acc + 128 ^ i * c : Nat) : Int) := by
  have hp := pow9 hi
  have hm : 128 ^ i * c ≤ 9223372036854775808 := by
    rcases Nat.lt_or_ge i 9 with h | h
    · have h8 : 128 ^ i ≤ 72057594037927936 := by
        have := Nat.pow_le_pow_right (n := 128) (by omega) (show i ≤ 8 by omega)
        omega
      have := Nat.mul_le_mul h8 (show c ≤ 127 by omega)
      omega
    · have := h9 (by omega)
      have := Nat.mul_le_mul hp this
      omega
  rw [u8w (by omega) (by omega), u64w (n := ((c : Nat) : Int)) (by omega) (by omega)]
  have e : ((128 ^ i : Nat) : Int) * ((c : Nat) : Int) = ((128 ^ i * c : Nat) : Int) := (Int.natCast_mul _ _).symm
  rw [e, u64w (n := ((128 ^ i * c : Nat) : Int)) (by omega) (by omega)]
  have e2 : (acc : Int) + ((128 ^ i * c : Nat) : Int) = ((acc + 128 ^ i * c : Nat) : Int) := (Int.natCast_add _ _).symm
  rw [e2, u64w (by omega) (by omega)]
def outM (K : Int → Int → Option (Int × Int × Int)) (r : Nat × Nat × Nat) : Option (Int × Int × Int) := if r.2.2 = 0 then K (r.1 : Int) (r.2.1 : Int) else some (0, 0, (r.2.2 : Int))
theorem qpc (K : Int → Int → Option (Int × Int × Int)) (B : List UInt8) (hB : B.length ≤ 1000000000) (a : Nat) (ha : a ≤ B.length) : ∀ (d i fuel acc : Nat), i + d = 9 → d + 1 ≤ fuel → acc < 128 ^ i → qbB K (a : Int) (toY B) fuel (acc : Int) ((128 ^ i : Nat) : Int) (i : Int) = outM K (accM acc i (rawM i (B.drop (a + i))))
  | d, i, 0, acc, _, h, _ => by omega
  | d, i, fuel + 1, acc, hd, hf, hacc => by
    have e1 : wr (((toY B).length : Int) - (a : Int)) = (B.length : Int) - (a : Int) := by
      rw [qhb, qmv (by omega)]
    have e2 : wr ((i : Int) + 1) = ((i + 1 : Nat) : Int) := by
      rw [qmv (by omega)]
      omega
    rw [qbB, e1]
    by_cases hend : B.length ≤ a + i
    · rw [decide_eq_true (by omega), cond_true, List.drop_eq_nil_of_le hend]
      rfl
    · rw [decide_eq_false (by omega), cond_false]
      have hlt : a + i < B.length := by omega
      have e3 : wr ((a : Int) + (i : Int)) = ((a + i : Nat) : Int) := by
        rw [qmv (by omega)]
        omega
      rw [e3, getY B (a + i) hlt, Option.bind_some, List.drop_eq_getElem_cons hlt]
      have hc256 := UInt8.toNat_lt (B[a + i]'hlt)
      generalize (B[a + i]'hlt) = c at *
      rw [tmod128, e2]
      -- the last one of its bytes
      have last : c.toNat < 128 → (i = 9 → c.toNat ≤ 1) → (bif (((c.toNat : Nat) : Int) == (0 : Int)) then (bif (decide (((i + 1 : Nat) : Int) > (1 : Int))) then some (0, 0, 3) else K (IntKind.u64.wrap ((acc : Int) + (IntKind.u64.wrap (((128 ^ i : Nat) : Int) * (IntKind.u64.wrap (IntKind.u8.wrap ((c.toNat % 128 : Nat) : Int))))))) ((i + 1 : Nat) : Int)) else K (IntKind.u64.wrap ((acc : Int) + (IntKind.u64.wrap (((128 ^ i : Nat) : Int) * (IntKind.u64.wrap (IntKind.u8.wrap ((c.toNat % 128 : Nat) : Int))))))) ((i + 1 : Nat) : Int)) = outM K (accM acc i (rawM i (c :: B.drop (a + i + 1)))) := fun h1 h9 => by
        have hm : c.toNat % 128 = c.toNat := Nat.mod_eq_of_lt h1
        rw [hm, step128 (by omega) hacc h1 h9, qiM, if_neg (by omega), if_pos h1]
        by_cases h0 : c.toNat = 0
        · by_cases hi0 : 0 < i
          · rw [h0, if_pos ⟨hi0, rfl⟩]
            have : decide (((i + 1 : Nat) : Int) > 1) = true := decide_eq_true (by omega)
            rw [this]
            rfl
          · rw [h0, if_neg (by omega)]
            have : decide (((i + 1 : Nat) : Int) > 1) = false := decide_eq_false (by omega)
            rw [this]
            rfl
        · rw [if_neg (by omega)]
          have : (((c.toNat : Nat) : Int) == (0 : Int)) = false := by
            rw [beq_eq_false_iff_ne]
            omega
          rw [this]
          rfl
      cases d with
      | zero =>
        have hi9 : i = 9 := by omega
        have : ((i : Int) == 9) = true := by simp [hi9]
        rw [this, cond_true]
        by_cases h1 : 1 < c.toNat
        · rw [decide_eq_true (by omega), cond_true, qiM, if_pos ⟨hi9, h1⟩]
          rfl
        · rw [decide_eq_false (by omega), cond_false, decide_eq_true (by omega), cond_true]
          exact last (by omega) fun _ => by omega
      | succ d =>
        have : ((i : Int) == 9) = false := by
          rw [beq_eq_false_iff_ne]
          omega
        rw [this, cond_false]
        by_cases h1 : c.toNat < 128
        · rw [decide_eq_true (by omega), cond_true]
          exact last h1 fun h => by omega
        · rw [decide_eq_false (by omega), cond_false]
          have hm : c.toNat % 128 = c.toNat - 128 := by omega
          have e4 : IntKind.u64.wrap (((128 ^ i : Nat) : Int) * 128) = ((128 ^ (i + 1) : Nat) : Int) := by
            have := pow9 (show i + 1 ≤ 9 by omega)
            rw [Nat.pow_succ] at this ⊢
            have e : ((128 ^ i : Nat) : Int) * 128 = ((128 ^ i * 128 : Nat) : Int) := (Int.natCast_mul _ _).symm
            rw [e, u64w (by omega) (by omega)]
          rw [hm, step128 (by omega) hacc (by omega) (by omega), e4, qn6 (by omega) (by omega)]
          have hacc' : acc + 128 ^ i * (c.toNat - 128) < 128 ^ (i + 1) := by
            have := Nat.mul_le_mul_left (128 ^ i) (show c.toNat - 128 ≤ 127 by omega)
            rw [Nat.pow_succ]
            omega
          exact qpc K B hB a ha d (i + 1) fuel _ (by omega) (by omega) hacc'
theorem zagU (u : Nat) (hu : u < 18446744073709551616) : ((IntKind.u64.wrap (Int.tmod (u : Int) 2) == (1 : Int)) = true → zag u = wr (wr (-(IntKind.i64.wrap (IntKind.u64.wrap (Int.tdiv (u : Int) 2)))) - 1)) ∧ ((IntKind.u64.wrap (Int.tmod (u : Int) 2) == (1 : Int)) = false → zag u = IntKind.i64.wrap (IntKind.u64.wrap (Int.tdiv (u : Int) 2))) := by
  have e1 : Int.tmod (u : Int) 2 = ((u % 2 : Nat) : Int) := by
    rw [Int.tmod_eq_emod_of_nonneg (by omega)]
    rfl
  have e2 : Int.tdiv (u : Int) 2 = ((u / 2 : Nat) : Int) := by
    rw [Int.tdiv_eq_ediv_of_nonneg (by omega)]
    rfl
  rw [e1, e2, u64w (n := ((u % 2 : Nat) : Int)) (by omega) (by omega), u64w (n := ((u / 2 : Nat) : Int)) (by omega) (by omega), wrap64 (by omega)]
  unfold zag
  refine ⟨fun h => ?_, fun h => ?_⟩
  · have h : ((u % 2 : Nat) : Int) = 1 := by simpa using h
    rw [if_neg (by omega), qmv (n := -((u / 2 : Nat) : Int)) (by omega), qmv (by omega)]
  · have h : ((u % 2 : Nat) : Int) ≠ 1 := by simpa using h
    rw [if_pos (by omega)]
theorem int01 {fuel : Nat} (hfu : 10 ≤ fuel) (B : List UInt8) (hB : B.length ≤ 1000000000) (a lo hi : Int) : qdH fuel (toY B) a lo hi = some (intM B a lo hi) := by
  unfold qdH intM
  by_cases h1 : a < 0
  · rw [decide_eq_true h1, cond_true, if_pos (.inl h1)]
  rw [decide_eq_false h1, cond_false, qhb]
  by_cases h2 : (B.length : Int) < a
  · rw [decide_eq_true (by omega), cond_true, if_pos (.inr (.inl h2))]
  rw [decide_eq_false (by omega), cond_false]
  by_cases h3 : hi < lo
  · rw [decide_eq_true (by omega), cond_true, if_pos (.inr (.inr h3))]
  rw [decide_eq_false (by omega), cond_false, if_neg (by omega)]
  obtain ⟨n, rfl⟩ := Int.eq_ofNat_of_zero_le (by omega : 0 ≤ a)
  have := qpc (fun u_7 i_8 => (bif ((IntKind.u64.wrap (Int.tmod u_7 2)) == (1 : Int)) then (bif (decide ((wr ((wr (-(IntKind.i64.wrap (IntKind.u64.wrap (Int.tdiv u_7 2))))) - (1 : Int))) < lo)) then some (0, 0, 5) else (bif (decide ((wr ((wr (-(IntKind.i64.wrap (IntKind.u64.wrap (Int.tdiv u_7 2))))) - (1 : Int))) > hi)) then some (0, 0, 5) else some ((wr ((wr (-(IntKind.i64.wrap (IntKind.u64.wrap (Int.tdiv u_7 2))))) - (1 : Int))), (wr ((n : Int) + i_8)), 0))) else (bif (decide ((IntKind.i64.wrap (IntKind.u64.wrap (Int.tdiv u_7 2))) < lo)) then some (0, 0, 5) else (bif (decide ((IntKind.i64.wrap (IntKind.u64.wrap (Int.tdiv u_7 2))) > hi)) then some (0, 0, 5) else some ((IntKind.i64.wrap (IntKind.u64.wrap (Int.tdiv u_7 2))), (wr ((n : Int) + i_8)), 0))))) B hB n (by omega) 9 0 fuel 0 rfl (by omega) (by omega)
  simp only [Nat.pow_zero, Nat.add_zero] at this
  refine this.trans ?_
  rw [qn4, Int.toNat_natCast]
  unfold outM
  by_cases he : (rawM 0 (B.drop n)).2.2 = 0
  · rw [if_pos he, if_neg (by simpa using he)]
    have hu := qoN _ he
    have hlen := (qnk 0 _ (by omega) he).2.2.2.1
    rw [List.length_drop] at hlen
    obtain ⟨z1, z2⟩ := zagU _ hu
    have hw : wr ((n : Int) + ((rawM 0 (B.drop n)).2.1 : Int)) = (n : Int) + ((rawM 0 (B.drop n)).2.1 : Int) := qmv (by omega)
    dsimp only
    rw [hw]
    cases hb : (IntKind.u64.wrap (Int.tmod ((rawM 0 (B.drop n)).1 : Int) 2) == (1 : Int)) with
    | true =>
      rw [cond_true, ← z1 hb]
      by_cases hl : zag (rawM 0 (B.drop n)).1 < lo
      · rw [decide_eq_true hl, cond_true, if_pos (.inl hl)]
      · rw [decide_eq_false hl, cond_false]
        by_cases hh : hi < zag (rawM 0 (B.drop n)).1
        · rw [decide_eq_true (by omega), cond_true, if_pos (.inr hh)]
        · rw [decide_eq_false (by omega), cond_false, if_neg (by omega)]
    | false =>
      rw [cond_false, ← z2 hb]
      by_cases hl : zag (rawM 0 (B.drop n)).1 < lo
      · rw [decide_eq_true hl, cond_true, if_pos (.inl hl)]
      · rw [decide_eq_false hl, cond_false]
        by_cases hh : hi < zag (rawM 0 (B.drop n)).1
        · rw [decide_eq_true (by omega), cond_true, if_pos (.inr hh)]
        · rw [decide_eq_false (by omega), cond_false, if_neg (by omega)]
  · rw [if_neg he, if_pos he]
theorem text01 {fuel : Nat} (hfu : 10 ≤ fuel) (B : List UInt8) (hB : B.length ≤ 1000000000) (a m : Int) : qd2 fuel (toY B) a m = some (⟨(textM B a m).1.toArray⟩, (textM B a m).2.1, (textM B a m).2.2) := by
  unfold qd2 textM
  by_cases h1 : m < 0
  · rw [decide_eq_true h1, cond_true, if_pos h1]
  rw [decide_eq_false h1, cond_false, if_neg h1, int01 hfu B hB, Option.bind_some]
  by_cases he : (intM B a 0 m).2.2 = 0
  · have hne : ((intM B a 0 m).2.2 != 0) = false := by simpa using he
    rw [hne, cond_false, if_neg (by simpa using he), qhb]
    obtain ⟨i1, i2, i3, i4, i5, i6, i7, i8⟩ := qkR (bs := B) (at_ := a) (lo := 0) (hi := m) (n := (intM B a 0 m).1) (next := (intM B a 0 m).2.1) (Prod.ext rfl (Prod.ext rfl he))
    rw [qmv (n := (B.length : Int) - (intM B a 0 m).2.1) (by omega)]
    by_cases hs : (B.length : Int) - (intM B a 0 m).2.1 < (intM B a 0 m).1
    · rw [decide_eq_true (by omega), cond_true, if_pos hs]
    · rw [decide_eq_false (by omega), cond_false, if_neg hs, qmv (n := (intM B a 0 m).2.1 + (intM B a 0 m).1) (by omega), subO, if_pos ⟨by omega, by omega, by rw [qhb]; omega⟩, Option.bind_some]
      have e : strY (((toY B).take ((intM B a 0 m).2.1 + (intM B a 0 m).1).toNat).drop (intM B a 0 m).2.1.toNat) = ⟨((B.drop (intM B a 0 m).2.1.toNat).take (intM B a 0 m).1.toNat).toArray⟩ := by
        have e1 : ((toY B).take ((intM B a 0 m).2.1 + (intM B a 0 m).1).toNat).drop (intM B a 0 m).2.1.toNat = toY ((B.drop (intM B a 0 m).2.1.toNat).take (intM B a 0 m).1.toNat) := by
          unfold toY
          rw [← List.map_take, ← List.map_drop, List.drop_take]
          congr 2
          omega
        rw [e1]
        unfold strY
        rw [qoI]
      rw [e]
  · have hne : ((intM B a 0 m).2.2 != 0) = true := by simpa using he
    rw [hne, cond_true, if_pos he]
theorem qpI (rec : Int → RR → Option (Int ⊕ (List T × RR))) (d : Int) : ∀ (n : Nat) (out : List T) (c : RR), qcL (fun o r => some (.inr (o, r))) rec d n out c = runT (qbJ rec d) 56 n out c
  | 0, out, c => rfl
  | n + 1, out, c => by
    rw [qcL, runT]
    simp only [qpI rec d n]
theorem qtU (rec : Int → RR → Option (Int ⊕ (List T × RR))) (d : Int) (c : RR) : qbJ rec d c = qa1 rec d c := by
  unfold qbJ
  cases qa1 rec d c with
  | none => rfl
  | some s => cases s <;> rfl
theorem qnA {α : Type} (x : Option (Int ⊕ (α × RR))) : (bindX x fun r => some (.inr (r.1, r.2))) = x := by
  cases x with
  | none => rfl
  | some s => cases s <;> rfl
theorem qph (fuel : Nat) : ∀ (n : Nat) (out : List At) (c : RR), qcP (fun o r => some (.inr (o, r))) fuel n out c = runT (qbE fuel) 40 n out c
  | 0, out, c => rfl
  | n + 1, out, c => by
    rw [qcP, runT]
    simp only [qph fuel n]
theorem qpx (fuel : Nat) : ∀ (n : Nat) (out : List Gl) (c : RR), qcE (fun o r => some (.inr (o, r))) fuel n out c = runT (qbY fuel) 48 n out c
  | 0, out, c => rfl
  | n + 1, out, c => by
    rw [qcE, runT]
    simp only [qpx fuel n]
theorem qpF : ∀ (n : Nat) (out : List S_api_Decl) (c : RR), qcB (fun o r => some (.inr (o, r))) n out c = runT (qb4) 24 n out c
  | 0, out, c => rfl
  | n + 1, out, c => by
    rw [qcB, runT]
    simp only [qpF n]
theorem qpK (fuel : Nat) : ∀ (n : Nat) (out : List qak) (c : RR), qcH (fun o r => some (.inr (o, r))) fuel n out c = runT (qcY fuel) 120 n out c
  | 0, out, c => rfl
  | n + 1, out, c => by
    rw [qcH, runT]
    simp only [qpK fuel n]
theorem qpN (fuel : Nat) : ∀ (n : Nat) (out : List qL) (c : RR), qcD (fun o r => some (.inr (o, r))) fuel n out c = runT (qcx fuel) 64 n out c
  | 0, out, c => rfl
  | n + 1, out, c => by
    rw [qcD, runT]
    simp only [qpN fuel n]
theorem qpo (fuel : Nat) : ∀ (n : Nat) (out : List (Int × At)) (c : RR), qcG (fun o r => some (.inr (o, r))) fuel n out c = runT (qbF fuel) 48 n out c
  | 0, out, c => rfl
  | n + 1, out, c => by
    rw [qcG, runT]
    simp only [qpo fuel n]
theorem qpL (fuel : Nat) : ∀ (n : Nat) (out : List (Int × T)) (c : RR), qcK (fun o r => some (.inr (o, r))) fuel n out c = runT (qbp fuel) 64 n out c
  | 0, out, c => rfl
  | n + 1, out, c => by
    rw [qcK, runT]
    simp only [qpL fuel n]
theorem qnQ (h : Int) : ∀ (n : Nat) (out : List Int) (c : RR), qci (fun o r => some (.inr (o, r))) h n out c = runT (qbQ h) 8 n out c
  | 0, out, c => rfl
  | n + 1, out, c => by
    rw [qci, runT]
    simp only [qnQ h n]
theorem qpm : ∀ (n : Nat) (out : List qY) (c : RR), qcI (fun o r => some (.inr (o, r))) n out c = runT (qce) 32 n out c
  | 0, out, c => rfl
  | n + 1, out, c => by
    rw [qcI, runT]
    simp only [qpm n]
theorem qnW (fuel : Nat) : ∀ (n : Nat) (out : List qZ) (c : RR), qco (fun o r => some (.inr (o, r))) fuel n out c = runT (qcX fuel) 72 n out c
  | 0, out, c => rfl
  | n + 1, out, c => by
    rw [qco, runT]
    simp only [qnW fuel n]
theorem qoh : ∀ (n : Nat) (out : List qah) (c : RR), qcf (fun o r => some (.inr (o, r))) n out c = runT (qb8) 112 n out c
  | 0, out, c => rfl
  | n + 1, out, c => by
    rw [qcf, runT]
    simp only [qoh n]
theorem qnc {lo hi n : Int} {s : Option (List Int)} {e : List Int} (h : catO (eNum lo hi n) s = some e) : e ≠ [] := by
  obtain ⟨a, b, h1, _, rfl⟩ := qnX h
  unfold eNum at h1
  split at h1
  · rename_i hh
    obtain rfl := Option.some.inj h1
    intro h0
    have : encN n = [] := (List.append_eq_nil_iff.1 h0).1
    have h2 := congrArg List.length this
    unfold encN at h2
    rw [qhb, List.length_take] at h2
    have := qrv (zig n)
    simp only [List.length_nil] at h2
    omega
  · cases h1
abbrev QQ := qg
def sl (B : List UInt8) (a n : Nat) : List Int := toY ((B.drop a).take (n - a))
theorem qou (B : List UInt8) (a : Nat) : sl B a a = [] := by
  unfold sl
  rw [Nat.sub_self]
  rfl
theorem qlM {B : List UInt8} {a n m : Nat} (h1 : a ≤ n) (h2 : n ≤ m) : sl B a n ++ sl B n m = sl B a m := by
  unfold sl toY
  rw [← List.map_append]
  congr 1
  have e : B.drop n = (B.drop a).drop (n - a) := by
    rw [List.drop_drop]
    congr 1
    omega
  rw [e, ← List.take_add]
  congr 1
  omega
def OkE (r : Option (List Int)) (d : List Int) (bad : Bool) : Prop := match r with
  | none => bad = true
  | some e => bad = false ∧ d = e
structure Sd {α : Type} (f : RR → Option (Int ⊕ (α × RR))) (g : QQ → Option (α × QQ)) (R : α → Option (List Int) → Prop) (W : α → Prop) : Prop where
  run : ∀ (B : List UInt8) (a : Nat) (bad : Bool), B.length ≤ 2000 → a ≤ B.length →
    (∃ (err : Int) (x : α) (at_ : Int) (bad' : Bool), err ≠ 0 ∧ f ⟨toY B, (a : Int)⟩ = some (.inl err) ∧ g ⟨toY B, (a : Int), 0, bad⟩ = some (x, ⟨toY B, at_, err, bad'⟩) ∧ W x) ∨
    (∃ (x : α) (n : Nat) (bad' : Bool) (r : Option (List Int)), a ≤ n ∧ n ≤ B.length ∧ f ⟨toY B, (a : Int)⟩ = some (.inr (x, ⟨toY B, (n : Int)⟩)) ∧ g ⟨toY B, (a : Int), 0, bad⟩ = some (x, ⟨toY B, (n : Int), 0, bad'⟩) ∧ W x ∧ R x r ∧ (bad = true → bad' = true) ∧ (bad = false → OkE r (sl B a n) bad'))
  stay : ∀ (B : List UInt8) (at_ err : Int) (bad : Bool), err ≠ 0 → ∃ x at' bad', g ⟨toY B, at_, err, bad⟩ = some (x, ⟨toY B, at', err, bad'⟩) ∧ W x
section
variable {α β : Type} {f f' : RR → Option (Int ⊕ (α × RR))} {g g' : QQ → Option (α × QQ)} {e : α → Option (List Int)} {R R' : α → Option (List Int) → Prop} {W W' : α → Prop}
theorem Sd.bind {F : α × RR → Option (Int ⊕ (β × RR))} {G : α × QQ → Option (β × QQ)} {R' : β → Option (List Int) → Prop} {W' : β → Prop} (h : Sd f g (fun x r => r = e x) W) (hb : ∀ x, W x → Sd (fun c => F (x, c)) (fun c => G (x, c)) (fun y s => R' y (catO (e x) s)) W') : Sd (fun c => bindX (f c) F) (fun c => (g c).bind G) R' W' := by
  refine ⟨fun B a bad hB ha => ?_, fun B at_ err bad he => ?_⟩
  · rcases h.run B a bad hB ha with ⟨err, x, at', bad', he, h1, h2, hw⟩ | ⟨x, n, bad', r, han, hn, h1, h2, hw, hr, m1, o1⟩
    · obtain ⟨y, at2, bad2, h3, h4⟩ := (hb x hw).stay B at' err bad' he
      exact .inl ⟨err, y, at2, bad2, he, by simp only [h1]; rfl, by simp only [h2, Option.bind_some]; exact h3, h4⟩
    · rcases (hb x hw).run B n bad' hB hn with ⟨err, y, at', bad2, he, h3, h4, hw2⟩ | ⟨y, m, bad2, s, hnm, hm, h3, h4, hw2, hr2, m2, o2⟩
      · exact .inl ⟨err, y, at', bad2, he, by simp only [h1]; exact h3, by simp only [h2, Option.bind_some]; exact h4, hw2⟩
      · refine .inr ⟨y, m, bad2, catO (e x) s, by omega, hm, by simp only [h1]; exact h3, by simp only [h2, Option.bind_some]; exact h4, hw2, hr2, fun hb => m2 (m1 hb), fun hb => ?_⟩
        have o1 := o1 hb
        subst hr
        cases he : e x with
        | none =>
          rw [he] at o1
          exact m2 o1
        | some d1 =>
          rw [he] at o1
          have o2 := o2 o1.1
          cases s with
          | none => exact o2
          | some d2 => exact ⟨o2.1, by rw [← qlM han hnm, o1.2, o2.2]⟩
  · obtain ⟨x, at', bad', h1, hw⟩ := h.stay B at_ err bad he
    obtain ⟨y, at2, bad2, h3, h4⟩ := (hb x hw).stay B at' err bad' he
    exact ⟨y, at2, bad2, by simp only [h1, Option.bind_some]; exact h3, h4⟩
theorem Sd.pure {x : α} (hR : R x (some [])) (hW : W x) : Sd (fun c => some (.inr (x, c))) (fun c => some (x, c)) R W :=
  ⟨fun B a bad _ ha => .inr ⟨x, a, bad, some [], by omega, ha, rfl, rfl, hW, hR, id, fun h => ⟨h, by rw [qou]⟩⟩, fun _ at_ _ bad _ => ⟨x, at_, bad, rfl, hW⟩⟩
theorem Sd.mono (h : Sd f g R W) (hR : ∀ x r, R x r → R' x r) (hW : ∀ x, W x → W' x) : Sd f g R' W' := by
  refine ⟨fun B a bad hB ha => ?_, fun B at_ err bad he => ?_⟩
  · rcases h.run B a bad hB ha with ⟨err, x, at', bad', he, h1, h2, hw⟩ | ⟨x, n, bad', r, han, hn, h1, h2, hw, hr, m1, o1⟩
    · exact .inl ⟨err, x, at', bad', he, h1, h2, hW x hw⟩
    · exact .inr ⟨x, n, bad', r, han, hn, h1, h2, hW x hw, hR x r hr, m1, o1⟩
  · obtain ⟨x, at', bad', h1, hw⟩ := h.stay B at_ err bad he
    exact ⟨x, at', bad', h1, hW x hw⟩
theorem Sd.congr (h : Sd f g R W) (hf : ∀ c, f c = f' c) (hg : ∀ c, g c = g' c) : Sd f' g' R W := by
  have e1 : f = f' := funext hf
  have e2 : g = g' := funext hg
  rw [← e1, ← e2]
  exact h
theorem Sd.last {y : α → β} {R' : β → Option (List Int) → Prop} {W' : β → Prop} (h : Sd f g (fun x r => r = e x) W) (hR : ∀ x, W x → R' (y x) (e x)) (hW : ∀ x, W x → W' (y x)) : Sd (fun c => bindX (f c) fun r => some (.inr (y r.1, r.2))) (fun c => (g c).bind fun r => some (y r.1, r.2)) R' W' :=
  Sd.bind (F := fun r => some (.inr (y r.1, r.2))) (G := fun r => some (y r.1, r.2)) h fun x hx => Sd.pure (by rw [qpX]; exact hR x hx) (hW x hx)
end
/-! ### numbers, strings, flags -/
theorem qrB (B : List UInt8) (hB : B.length ≤ 2000) (a lo hi : Int) : qpY (toY B) a lo hi = some (intM B a lo hi) := by
  rw [qpY, if_pos (by rw [qhb]; omega), qoI]
theorem qsk (B : List UInt8) (hB : B.length ≤ 2000) (a m : Int) : qni (toY B) a m = some (⟨(textM B a m).1.toArray⟩, (textM B a m).2.1, (textM B a m).2.2) := by
  rw [qni, if_pos (by rw [qhb]; omega), qoI]
def InN (lo hi x : Int) : Prop := x = 0 ∨ (lo ≤ x ∧ x ≤ hi)
theorem qh5 {fuel : Nat} (hfu : 10 ≤ fuel) (lo hi : Int) : Sd (qq lo hi) (qi fuel lo hi) (fun x r => r = eNum lo hi x) (InN lo hi) := by
  refine ⟨fun B a bad hB ha => ?_, fun B at_ err bad he => ⟨0, at_, bad, ?_, .inl rfl⟩⟩
  · unfold qq qi
    simp only [qrB B hB, int01 hfu B (by omega), Option.bind_some, bne_self_eq_false, cond_false]
    generalize hM : intM B (a : Int) lo hi = M
    obtain ⟨n, next, er⟩ := M
    by_cases her : er = 0
    · subst her
      obtain ⟨i1, i2, i3, i4, i5, i6, i7, i8, i9⟩ := qkR hM
      refine .inr ⟨n, next.toNat, bad, eNum lo hi n, by omega, by omega, ?_, ?_, .inr ⟨i4, i5⟩, rfl, id, fun h => ?_⟩
      · rw [Int.toNat_of_nonneg (by omega)]
        rfl
      · rw [Int.toNat_of_nonneg (by omega)]
      · unfold eNum
        rw [if_pos ⟨i4, i5⟩]
        refine ⟨h, ?_⟩
        unfold sl
        rw [qmO i6 i7, ← i8]
        rfl
    · obtain ⟨rfl, rfl⟩ := qlS hM her
      refine .inl ⟨er, 0, 0, bad, her, ?_, rfl, .inl rfl⟩
      unfold qbn
      have : (er != 0) = true := by simpa using her
      simp only [this, cond_true]
      rfl
  · unfold qi
    have : (err != 0) = true := by simpa using he
    simp only [this, cond_true]
theorem qlE {fuel : Nat} (hfu : 10 ≤ fuel) : Sd qaR (qI fuel) (fun x r => r = eText x) (fun x => x.size ≤ 40) := by
  refine ⟨fun B a bad hB ha => ?_, fun B at_ err bad he => ⟨⟨#[]⟩, at_, bad, ?_, by decide⟩⟩
  · unfold qaR qI
    simp only [qsk B hB, text01 hfu B (by omega), Option.bind_some, bne_self_eq_false, cond_false]
    have hno : ∀ er : Int, er ≠ 0 → textM B (a : Int) 40 = ([], 0, er) → (∃ (err : Int) (x : ByteArray) (at_ : Int) (bad' : Bool), err ≠ 0 ∧ (bindX (qbn (textM B (a : Int) 40).2.1 (textM B (a : Int) 40).2.2 ⟨toY B, (a : Int)⟩) fun r_2 => some (.inr ((⟨(textM B (a : Int) 40).1.toArray⟩ : ByteArray), r_2))) = some (.inl err) ∧ (some ((⟨(textM B (a : Int) 40).1.toArray⟩ : ByteArray), (⟨toY B, (textM B (a : Int) 40).2.1, (textM B (a : Int) 40).2.2, bad⟩ : QQ))) = some (x, ⟨toY B, at_, err, bad'⟩) ∧ x.size ≤ 40) := fun er her h => by
      rw [h]
      refine ⟨er, ⟨#[]⟩, 0, bad, her, ?_, rfl, by decide⟩
      unfold qbn
      have : (er != 0) = true := by simpa using her
      simp only [this, cond_true]
      rfl
    generalize hM : intM B (a : Int) 0 40 = M
    obtain ⟨n, next, er⟩ := M
    by_cases her : er = 0
    · subst her
      obtain ⟨i1, i2, i3, i4, i5, i6, i7, i8, i9⟩ := qkR hM
      by_cases hs : (B.length : Int) - next < n
      · refine .inl (hno 4 (by omega) ?_)
        unfold textM
        rw [hM, if_neg (by omega), if_neg (by simp), if_pos hs]
      · have ht : textM B (a : Int) 40 = ((B.drop next.toNat).take n.toNat, next + n, 0) := by
          unfold textM
          rw [hM, if_neg (by omega), if_neg (by simp), if_neg hs]
        have hlen : ((B.drop next.toNat).take n.toNat).length = n.toNat := by
          rw [List.length_take, List.length_drop]
          omega
        have hsz : (⟨((B.drop next.toNat).take n.toNat).toArray⟩ : ByteArray).size = n.toNat := by
          show ((B.drop next.toNat).take n.toNat).toArray.size = n.toNat
          rw [List.size_toArray]
          exact hlen
        refine .inr ⟨⟨((B.drop next.toNat).take n.toNat).toArray⟩, next.toNat + n.toNat, bad, _, by omega, by omega, ?_, ?_, by rw [hsz]; omega, rfl, id, fun h => ?_⟩
        · rw [ht]
          have : ((next.toNat + n.toNat : Nat) : Int) = next + n := by omega
          rw [this]
          rfl
        · rw [ht]
          have : ((next.toNat + n.toNat : Nat) : Int) = next + n := by omega
          rw [this]
        · unfold eText
          rw [if_pos (by rw [hsz]; omega)]
          refine ⟨h, ?_⟩
          rw [← qlM (show a ≤ next.toNat by omega) (show next.toNat ≤ next.toNat + n.toNat by omega), hsz, Int.toNat_of_nonneg i4, qmO i6 i7]
          unfold sl
          rw [← i8]
          congr 2
          rw [Nat.add_sub_cancel_left]
    · obtain ⟨rfl, rfl⟩ := qlS hM her
      refine .inl (hno er her ?_)
      unfold textM
      rw [hM, if_neg (by omega), if_pos her]
  · unfold qI
    have : (err != 0) = true := by simpa using he
    simp only [this, cond_true]
theorem bool01 (b : List Int) (a : Int) : qeJ b a = qhz b a := rfl
theorem qrN : Sd qc1 qaG (fun x r => r = eBool x) (fun _ => True) := by
  refine ⟨fun B a bad hB ha => ?_, fun B at_ err bad he => ⟨false, at_, bad, ?_, trivial⟩⟩
  · unfold qc1 qaG
    simp only [bool01, bne_self_eq_false, cond_false]
    have h1 : decide ((a : Int) < 0) = false := decide_eq_false (by omega)
    have h2 : decide ((a : Int) > ((toY B).length : Int)) = false := decide_eq_false (by rw [qhb]; omega)
    unfold qhz
    simp only [h1, h2, cond_false]
    by_cases h3 : a = B.length
    · have : ((a : Int) == ((toY B).length : Int)) = true := by rw [qhb, h3, beq_self_eq_true]
      simp only [this, cond_true]
      exact .inl ⟨4, false, 0, bad, by omega, rfl, rfl, trivial⟩
    · have : ((a : Int) == ((toY B).length : Int)) = false := by
        rw [beq_eq_false_iff_ne, qhb]
        omega
      have hlt : a < B.length := by omega
      simp only [this, cond_false, getY B a hlt, Option.bind_some]
      by_cases h4 : 1 < (B[a]'hlt).toNat
      · have : decide (((B[a]'hlt).toNat : Int) > 1) = true := decide_eq_true (by omega)
        simp only [this, cond_true]
        exact .inl ⟨3, false, 0, bad, by omega, rfl, rfl, trivial⟩
      · have : decide (((B[a]'hlt).toNat : Int) > 1) = false := decide_eq_false (by omega)
        simp only [this, cond_false]
        have e1 : wr ((a : Int) + 1) = ((a + 1 : Nat) : Int) := by
          rw [qmv (by omega)]
          omega
        refine .inr ⟨_, a + 1, bad, _, by omega, by omega, by rw [e1]; rfl, by rw [e1]; rfl, trivial, rfl, id, fun h => ⟨h, ?_⟩⟩
        have e2 : (B.drop a).take (a + 1 - a) = [B[a]'hlt] := by
          rw [Nat.add_sub_cancel_left, List.drop_eq_getElem_cons hlt]
          rfl
        unfold sl
        rw [e2]
        generalize (B[a]'hlt) = c at *
        have hc : c.toNat = 0 ∨ c.toNat = 1 := by omega
        unfold toY
        rcases hc with hc | hc <;> simp [hc]
  · unfold qaG
    have : (err != 0) = true := by simpa using he
    simp only [this, cond_true]
/-! ### lists -/
def runQ {α : Type} (one : QQ → Option (α × QQ)) (sz : Nat) : Nat → List α → QQ → Option (List α × QQ)
  | 0, out, c => some (out, c)
  | n + 1, out, c => bif c.f2_e == (0 : Int) then ((one c).bind fun q => (appO sz out [q.1]).bind fun l => runQ one sz n l q.2) else some (out, c)
section
variable {α : Type} {f : RR → Option (Int ⊕ (α × RR))} {g : QQ → Option (α × QQ)} {e : α → Option (List Int)} {W : α → Prop}
theorem qiN (sz : Nat) (n : Nat) (out : List α) (B : List Int) (at_ err : Int) (bad : Bool) (he : err ≠ 0) : runQ g sz n out ⟨B, at_, err, bad⟩ = some (out, ⟨B, at_, err, bad⟩) := by
  cases n with
  | zero => rfl
  | succ n =>
    have : (err == 0) = false := by simpa using he
    simp only [runQ, this, cond_false]
theorem qsQ {sz : Nat} (hsz : sz ≤ 1000) (h : Sd f g (fun x r => r = e x) W) (hg : True) : ∀ (n : Nat) (out : List α), out.length + n ≤ 10000000 → (∀ x ∈ out, W x) → Sd (runT f sz n out) (runQ g sz n out) (fun l' r => ∃ l, l' = out ++ l ∧ l.length = n ∧ r = eCat e l) (fun l' => (∀ x ∈ l', W x) ∧ l'.length ≤ out.length + n)
  | 0, out, hn, ho => Sd.pure ⟨[], by simp, rfl, rfl⟩ ⟨ho, by omega⟩
  | n + 1, out, hn, ho => by
    have happ : ∀ x, appO sz out [x] = some (out ++ [x]) := fun x => by
      have : (out.length + [x].length) * sz ≤ 10000000 * 1000 := Nat.mul_le_mul (by simp only [List.length_cons, List.length_nil] at hn ⊢; omega) hsz
      exact qoP (by omega) (by simp only [List.length_cons, List.length_nil] at hn ⊢; omega)
    have key := Sd.bind (F := fun q => (appO sz out [q.1]).bind fun l => runT f sz n l q.2) (G := fun q => (appO sz out [q.1]).bind fun l => runQ g sz n l q.2) (R' := fun l' r => ∃ l, l' = out ++ l ∧ l.length = n + 1 ∧ r = eCat e l) (W' := fun l' => (∀ x ∈ l', W x) ∧ l'.length ≤ out.length + (n + 1)) h fun x hx => by
      have ih := qsQ hsz h hg n (out ++ [x]) (by simp only [List.length_append, List.length_singleton]; omega) (fun y hy => by
        rcases List.mem_append.1 hy with hy | hy
        · exact ho y hy
        · rw [List.mem_singleton.1 hy]
          exact hx)
      refine (ih.congr (fun c => ?_) (fun c => ?_)).mono (fun y s => ?_) (fun y hy => ?_)
      · show _ = (appO sz out [x]).bind _
        rw [happ]
        rfl
      · show _ = (appO sz out [x]).bind _
        rw [happ]
        rfl
      · rintro ⟨l, rfl, hl, rfl⟩
        exact ⟨x :: l, by simp, by simp [hl], rfl⟩
      · refine ⟨hy.1, ?_⟩
        have := hy.2
        simp only [List.length_append, List.length_singleton] at this
        omega
    refine ⟨fun B a bad hB ha => ?_, fun B at_ err bad he => ⟨out, at_, bad, qiN sz (n + 1) out (toY B) at_ err bad he, ho, by omega⟩⟩
    simpa only [runT, runQ, beq_self_eq_true, cond_true] using key.run B a bad hB ha
theorem qiC {fuel sz : Nat} (hfu : 10 ≤ fuel) (hsz : sz ≤ 1000) {most : Int} (h0 : 0 ≤ most) (hm : most ≤ 10000000) (h : Sd f g (fun x r => r = e x) W) : Sd (fun c => bindX (qq 0 most c) fun r => runT f sz (r.1 - 0 : Int).toNat [] r.2) (fun c => (qi fuel 0 most c).bind fun r => runQ g sz (r.1 - 0 : Int).toNat [] r.2) (fun l r => r = eList most e l) (fun l => (∀ x ∈ l, W x) ∧ (l.length : Int) ≤ most) := by
  refine Sd.bind (F := fun r => runT f sz (r.1 - 0 : Int).toNat [] r.2) (G := fun r => runQ g sz (r.1 - 0 : Int).toNat [] r.2) (qh5 hfu 0 most) fun x hx => ?_
  have hx : 0 ≤ x ∧ x ≤ most := by
    unfold InN at hx
    omega
  refine (qsQ hsz h trivial (x - 0 : Int).toNat [] (by simp only [List.length_nil]; omega) (by simp)).mono (fun y s => ?_) (fun y hy => ⟨hy.1, ?_⟩)
  · rintro ⟨l, rfl, hl, rfl⟩
    unfold eList
    rw [hl]
    congr 2
    omega
  · have := hy.2
    simp only [List.length_nil] at this
    omega
end
theorem qiY {fuel : Nat} (hfu : 10 ≤ fuel) (lo hi : Int) (B : List UInt8) (a : Nat) (hB : B.length ≤ 2000) (ha : a ≤ B.length) :
    (∃ err : Int, err ≠ 0 ∧ qq lo hi ⟨toY B, (a : Int)⟩ = some (.inl err) ∧ ∀ bad, qi fuel lo hi ⟨toY B, (a : Int), 0, bad⟩ = some (0, ⟨toY B, 0, err, bad⟩)) ∨
    (∃ (x : Int) (n : Nat), a < n ∧ n ≤ B.length ∧ lo ≤ x ∧ x ≤ hi ∧ qq lo hi ⟨toY B, (a : Int)⟩ = some (.inr (x, ⟨toY B, (n : Int)⟩)) ∧ (∀ bad, qi fuel lo hi ⟨toY B, (a : Int), 0, bad⟩ = some (x, ⟨toY B, (n : Int), 0, bad⟩)) ∧ sl B a n = encN x) := by
  unfold qq qi
  simp only [qrB B hB, int01 hfu B (by omega), Option.bind_some, bne_self_eq_false, cond_false]
  generalize hM : intM B (a : Int) lo hi = M
  obtain ⟨n, next, er⟩ := M
  by_cases her : er = 0
  · subst her
    obtain ⟨i1, i2, i3, i4, i5, i6, i7, i8, i9⟩ := qkR hM
    refine .inr ⟨n, next.toNat, by omega, by omega, i4, i5, ?_, fun bad => ?_, ?_⟩
    · rw [Int.toNat_of_nonneg (by omega)]
      rfl
    · rw [Int.toNat_of_nonneg (by omega)]
    · unfold sl
      rw [qmO i6 i7, ← i8]
      rfl
  · obtain ⟨rfl, rfl⟩ := qlS hM her
    refine .inl ⟨er, her, ?_, fun bad => rfl⟩
    unfold qbn
    have : (er != 0) = true := by simpa using her
    simp only [this, cond_true]
    rfl
theorem qkv (fuel : Nat) (lo hi : Int) (b : List Int) (at_ err : Int) (bad : Bool) (he : err ≠ 0) : qi fuel lo hi ⟨b, at_, err, bad⟩ = some (0, ⟨b, at_, err, bad⟩) := by
  unfold qi
  have : (err != 0) = true := by simpa using he
  simp only [this, cond_true]
theorem qqs {fuel : Nat} (hfu : 10 ≤ fuel) (B : List UInt8) (a : Nat) (hB : B.length ≤ 2000) (ha : a ≤ B.length) :
    (∃ err : Int, err ≠ 0 ∧ qaR ⟨toY B, (a : Int)⟩ = some (.inl err) ∧ ∀ bad, ∃ s at_, qI fuel ⟨toY B, (a : Int), 0, bad⟩ = some (s, ⟨toY B, at_, err, bad⟩)) ∨
    (∃ (x : ByteArray) (n : Nat), a ≤ n ∧ n ≤ B.length ∧ x.size ≤ 40 ∧ qaR ⟨toY B, (a : Int)⟩ = some (.inr (x, ⟨toY B, (n : Int)⟩)) ∧ (∀ bad, qI fuel ⟨toY B, (a : Int), 0, bad⟩ = some (x, ⟨toY B, (n : Int), 0, bad⟩)) ∧ sl B a n = encN x.size ++ toY x.data.toList) := by
  rcases (qlE hfu).run B a false hB ha with ⟨err, x, at_, bad', he, h1, h2, _⟩ | ⟨x, n, bad', r, han, hn, h1, h2, hw, hr, m1, o1⟩
  · refine .inl ⟨err, he, h1, fun bad => ?_⟩
    rcases (qlE hfu).run B a bad hB ha with ⟨err', x', at', bad2, he', h1', h2', _⟩ | ⟨x', n', bad2, r', han', hn', h1', h2', hw', hr', m1', o1'⟩
    · rw [h1] at h1'
      have e1 : err = err' := Sum.inl.inj (Option.some.inj h1')
      subst e1
      refine ⟨x', at', ?_⟩
      have hb : bad2 = bad := by
        unfold qI at h2'
        simp only [text01 hfu B (by omega), Option.bind_some, bne_self_eq_false, cond_false] at h2'
        have := Option.some.inj h2'
        exact (congrArg (fun q : ByteArray × QQ => q.2.f3_bad) this).symm
      rw [h2', hb]
    · rw [h1] at h1'
      cases Option.some.inj h1'
  · subst hr
    have o1 := o1 rfl
    have hx : eText x = some (encN x.size ++ toY x.data.toList) := by
      unfold eText
      rw [if_pos hw]
    rw [hx] at o1
    refine .inr ⟨x, n, han, hn, hw, h1, fun bad => ?_, o1.2⟩
    unfold qI at h2 ⊢
    simp only [text01 hfu B (by omega), Option.bind_some, bne_self_eq_false, cond_false] at h2 ⊢
    have h3 := Option.some.inj h2
    have e1 := congrArg (fun q : ByteArray × QQ => q.1) h3
    have e2 := congrArg (fun q : ByteArray × QQ => q.2.f1_at) h3
    have e3 := congrArg (fun q : ByteArray × QQ => q.2.f2_e) h3
    simp only at e1 e2 e3
    rw [e1, e2, e3]
structure Td {α : Type} (f : RR → Option (Int ⊕ (α × RR))) (g : QQ → Option (α × QQ)) (R : α → List Int → Prop) (V : α → Nat → Prop) : Prop where
  run : ∀ (B : List UInt8) (a : Nat) (bad : Bool), B.length ≤ 2000 → a ≤ B.length →
    (∃ (err : Int) (x : α) (at_ : Int), err ≠ 0 ∧ f ⟨toY B, (a : Int)⟩ = some (.inl err) ∧ g ⟨toY B, (a : Int), 0, bad⟩ = some (x, ⟨toY B, at_, err, bad⟩) ∧ V x (B.length - a + 1)) ∨
    (∃ (x : α) (n : Nat), a ≤ n ∧ n ≤ B.length ∧ f ⟨toY B, (a : Int)⟩ = some (.inr (x, ⟨toY B, (n : Int)⟩)) ∧ g ⟨toY B, (a : Int), 0, bad⟩ = some (x, ⟨toY B, (n : Int), 0, bad⟩) ∧ R x (sl B a n) ∧ V x (n - a))
  stay : ∀ (B : List UInt8) (at_ err : Int) (bad : Bool), err ≠ 0 → ∃ x, g ⟨toY B, at_, err, bad⟩ = some (x, ⟨toY B, at_, err, bad⟩) ∧ V x 1
def Args (l : List T) (b : List Int) : Prop := b = encN l.length ++ bL l
theorem qr3 (k i : Int) (s : ByteArray) (ar : List T) : wt (T.mk k i s ar) = 1 + wtL ar := by rw [wt]
theorem qtR (s : ByteArray) (ar : List T) : bT (T.mk 2 0 s ar) = encN 2 ++ ((encN s.size ++ toY s.data.toList) ++ (encN ar.length ++ bL ar)) := by
  rw [bT, if_pos rfl]
theorem qsR (k i : Int) (hk : k ≠ 2) (s : ByteArray) (ar : List T) : bT (T.mk k i s ar) = encN k ++ encN i := by
  rw [bT, if_neg hk]
theorem qrr {fuel : Nat} (hfu : 10 ≤ fuel) {recP : Int → RR → Option (Int ⊕ (List T × RR))} {recQ : Int → QQ → Option (List T × QQ)} (d : Nat) (hd : d ≤ 20) (hr : d ≤ 19 → Td (recP ((d + 1 : Nat) : Int)) (recQ ((d + 2 : Nat) : Int)) Args (fun l m => wtL l ≤ m)) :
    Td (qa1 recP (d : Int)) (qaA fuel recQ ((d + 1 : Nat) : Int)) (fun t b => b = bT t) (fun t m => wt t ≤ m) := by
  have w1 : wr ((d : Int) + 1) = ((d + 1 : Nat) : Int) := by
    rw [qmv (by omega)]
    omega
  have w2 : wr (((d + 1 : Nat) : Int) + 1) = ((d + 2 : Nat) : Int) := by
    rw [qmv (by omega)]
    omega
  have wt0 : ∀ k i : Int, wt (T.mk k i ⟨#[]⟩ []) = 1 := fun k i => by rw [qr3]; rfl
  refine ⟨fun B a bad hB ha => ?_, fun B at_ err bad he => ?_⟩
  · unfold qa1 qaA
    simp only [beq_self_eq_true, cond_true, w1, w2]
    by_cases h19 : 19 < d
    · have d1 : decide ((d : Int) > 19) = true := decide_eq_true (by omega)
      have d2 : decide (((d + 1 : Nat) : Int) > 20) = true := decide_eq_true (by omega)
      simp only [d1, d2, cond_true, qkv fuel _ _ _ _ 6 _ (by omega), Option.bind_some]
      exact .inl ⟨6, _, _, by omega, rfl, rfl, by rw [wt0]; omega⟩
    · have d1 : decide ((d : Int) > 19) = false := decide_eq_false (by omega)
      have d2 : decide (((d + 1 : Nat) : Int) > 20) = false := decide_eq_false (by omega)
      simp only [d1, d2, cond_false]
      rcases qiY hfu 0 2 B a hB ha with ⟨err, he, h1, h2⟩ | ⟨k, n, han, hn, hk0, hk2, h1, h2, h3⟩
      · have he' : (err != 0) = true := by simpa using he
        simp only [h1, h2, Option.bind_some, he', cond_true]
        exact .inl ⟨err, _, _, he, rfl, rfl, by rw [wt0]; omega⟩
      · simp only [h1, h2, Option.bind_some, qhL, bne_self_eq_false, cond_false]
        have hk : k = 0 ∨ k = 1 ∨ k = 2 := by omega
        rcases hk with rfl | rfl | rfl
        · simp only [beq_self_eq_true, cond_true]
          rcases qiY hfu (-2147483648) 2147483648 B n hB hn with ⟨err, he, h4, h5⟩ | ⟨i, m, hnm, hm, _, _, h4, h5, h6⟩
          · simp only [h4, h5, Option.bind_some]
            exact .inl ⟨err, _, _, he, rfl, rfl, by rw [wt0]; omega⟩
          · simp only [h4, h5, Option.bind_some]
            exact .inr ⟨_, m, by omega, hm, rfl, rfl, by rw [qsR _ _ (by omega), ← qlM (show a ≤ n by omega) (show n ≤ m by omega), h3, h6], by rw [wt0]; omega⟩
        · have e0 : ((1 : Int) == 0) = false := rfl
          simp only [e0, beq_self_eq_true, cond_true, cond_false]
          rcases qiY hfu 0 1048576 B n hB hn with ⟨err, he, h4, h5⟩ | ⟨i, m, hnm, hm, _, _, h4, h5, h6⟩
          · simp only [h4, h5, Option.bind_some]
            exact .inl ⟨err, _, _, he, rfl, rfl, by rw [wt0]; omega⟩
          · simp only [h4, h5, Option.bind_some]
            exact .inr ⟨_, m, by omega, hm, rfl, rfl, by rw [qsR _ _ (by omega), ← qlM (show a ≤ n by omega) (show n ≤ m by omega), h3, h6], by rw [wt0]; omega⟩
        · have e0 : ((2 : Int) == 0) = false := rfl
          have e1 : ((2 : Int) == 1) = false := rfl
          simp only [e0, e1, cond_false]
          have hr := hr (by omega)
          rcases qqs hfu B n hB hn with ⟨err, he, h4, h5⟩ | ⟨s, m, hnm, hm, hs, h4, h5, h6⟩
          · obtain ⟨s, at_, h5⟩ := h5 bad
            obtain ⟨x, h7, h8⟩ := hr.stay B at_ err bad he
            simp only [h4, h5, h7, Option.bind_some]
            exact .inl ⟨err, _, _, he, rfl, rfl, by rw [qr3]; omega⟩
          · simp only [h4, h5, Option.bind_some, qhL]
            rcases hr.run B m bad hB hm with ⟨err, x, at_, he, h7, h8, hw⟩ | ⟨x, q, hmq, hq, h7, h8, hR, hw⟩
            · simp only [h7, h8, Option.bind_some]
              exact .inl ⟨err, _, _, he, rfl, rfl, by rw [qr3]; omega⟩
            · simp only [h7, h8, Option.bind_some, qhL]
              refine .inr ⟨_, q, by omega, hq, rfl, rfl, ?_, by rw [qr3]; omega⟩
              rw [qtR, ← h3, ← h6, ← (show sl B m q = encN x.length ++ bL x from hR), qlM hnm hmq, qlM (by omega) (by omega)]
  · unfold qaA
    have e1 : (err == 0) = false := by simpa using he
    have e2 : (err != 0) = true := by simpa using he
    simp only [e1, e2, cond_true, cond_false, qkv fuel _ _ _ _ err _ he, Option.bind_some]
    exact ⟨_, rfl, by rw [wt0]; omega⟩
theorem qsX {f : RR → Option (Int ⊕ (T × RR))} {g : QQ → Option (T × QQ)} (h : Td f g (fun t b => b = bT t) (fun t m => wt t ≤ m)) : ∀ (n : Nat) (out : List T), out.length + n ≤ 10000 → Td (runT f 56 n out) (runQ g 56 n out) (fun l' b => ∃ l, l' = out ++ l ∧ l.length = n ∧ b = bL l) (fun l' m => ∃ l, l' = out ++ l ∧ wtL l ≤ m)
  | 0, out, hn => ⟨fun B a bad hB ha => .inr ⟨out, a, by omega, ha, rfl, rfl, ⟨[], by simp, rfl, by rw [qou]; rfl⟩, ⟨[], by simp, by rw [wtL]; omega⟩⟩, fun B at_ err bad he => ⟨out, rfl, [], by simp, by rw [wtL]; omega⟩⟩
  | n + 1, out, hn => by
    have happ : ∀ x, appO 56 out [x] = some (out ++ [x]) := fun x => qoP (by simp only [List.length_cons, List.length_nil]; omega) (by simp only [List.length_cons, List.length_nil]; omega)
    refine ⟨fun B a bad hB ha => ?_, fun B at_ err bad he => ⟨out, qiN 56 (n + 1) out (toY B) at_ err bad he, [], by simp, by rw [wtL]; omega⟩⟩
    simp only [runT, runQ, beq_self_eq_true, cond_true]
    rcases h.run B a bad hB ha with ⟨err, x, at_, he, h1, h2, hw⟩ | ⟨x, m, ham, hm, h1, h2, hR, hw⟩
    · simp only [h1, h2, Option.bind_some, happ, qiN 56 n _ (toY B) at_ err bad he]
      exact .inl ⟨err, _, _, he, rfl, rfl, [x], rfl, by simp only [wtL]; omega⟩
    · simp only [h1, h2, Option.bind_some, qhL, happ]
      rcases (qsX h n (out ++ [x]) (by simp only [List.length_append, List.length_singleton]; omega)).run B m bad hB hm with ⟨err, y, at_, he, h3, h4, l, rfl, hl⟩ | ⟨y, q, hmq, hq, h3, h4, ⟨l, rfl, hl, hb⟩, ⟨l2, hl2, hw2⟩⟩
      · simp only [h3, h4]
        exact .inl ⟨err, _, _, he, rfl, rfl, x :: l, by simp, by simp only [wtL]; omega⟩
      · have : l2 = l := (List.append_cancel_left hl2).symm
        subst this
        simp only [h3, h4]
        exact .inr ⟨_, q, by omega, hq, rfl, rfl, ⟨x :: l2, by simp, by simp [hl], by rw [← qlM ham hmq, hb, hR, bL]⟩, ⟨x :: l2, by simp, by simp only [wtL]; omega⟩⟩
theorem ql5 (rec : Int → QQ → Option (List T × QQ)) (d : Int) (fuel : Nat) : ∀ (n : Nat) (out : List T) (c : QQ), qaq (fun o r => some (o, r)) rec d fuel n out c = runQ (qaA fuel rec d) 56 n out c
  | 0, out, c => rfl
  | n + 1, out, c => by
    rw [qaq, runQ]
    simp only [ql5 rec d fuel n]
theorem qoX : ∀ (k d : Nat), d + k = 20 → ∀ (fp fq : Nat), k + 1 ≤ fp → k + 11 ≤ fq → Td (qae fp (d : Int)) (qU fq ((d + 1 : Nat) : Int)) Args (fun l m => wtL l ≤ m)
  | _, _, _, 0, _, h, _ => by omega
  | _, _, _, _ + 1, 0, _, h => by omega
  | k, d, hd, fp + 1, fq + 1, hp, hq => by
    have hrun := fun n hn => qsX (qrr (fuel := fq) (by omega) (recP := qae fp) (recQ := qU fq) d (by omega) fun h19 => by
      cases k with
      | zero => omega
      | succ k => exact qoX k (d + 1) (by omega) fp fq (by omega) (by omega)) n [] hn
    have eP : ∀ c, qae (fp + 1) (d : Int) c = bindX (qq 0 6 c) fun r => runT (qa1 (qae fp) (d : Int)) 56 (r.1 - 0 : Int).toNat [] r.2 := fun c => by
      rw [qae]
      unfold qeA
      have : qbJ (qae fp) (d : Int) = qa1 (qae fp) (d : Int) := funext fun c => qtU _ _ c
      simp only [qpI, qnA, this]
    have eQ : ∀ c, qU (fq + 1) ((d + 1 : Nat) : Int) c = (qi fq 0 6 c).bind fun r => runQ (qaA fq (qU fq) ((d + 1 : Nat) : Int)) 56 (r.1 - 0 : Int).toNat [] r.2 := fun c => by
      rw [qU]
      simp only [ql5]
    refine ⟨fun B a bad hB ha => ?_, fun B at_ err bad he => ?_⟩
    · rw [eP, eQ]
      rcases qiY (fuel := fq) (by omega) 0 6 B a hB ha with ⟨err, he, h1, h2⟩ | ⟨x, n, han, hn, hx0, hx6, h1, h2, h3⟩
      · simp only [h1, h2, Option.bind_some]
        exact .inl ⟨err, [], 0, he, rfl, rfl, by rw [wtL]; omega⟩
      · simp only [h1, h2, Option.bind_some, qhL]
        rcases (hrun (x - 0).toNat (by simp only [List.length_nil]; omega)).run B n bad hB hn with ⟨err, y, at_, he, h4, h5, l, rfl, hl⟩ | ⟨y, q, hnq, hq, h4, h5, ⟨l, rfl, hl, hb⟩, ⟨l2, hl2, hw2⟩⟩
        · exact .inl ⟨err, _, at_, he, h4, h5, by omega⟩
        · obtain rfl : y = l2 := hl2
          refine .inr ⟨_, q, by omega, hq, h4, h5, ?_, by omega⟩
          unfold Args
          rw [← qlM (show a ≤ n by omega) hnq, h3, hb, hl]
          congr 2
          omega
    · rw [eQ, qkv fq _ _ _ _ err _ he, Option.bind_some]
      exact ⟨[], rfl, by rw [wtL]; omega⟩
theorem Td.sd {α : Type} {f : RR → Option (Int ⊕ (α × RR))} {g : QQ → Option (α × QQ)} {R : α → List Int → Prop} {V : α → Nat → Prop} {e : α → Option (List Int)} {W : α → Prop} (h : Td f g R V) (hR : ∀ x b, R x b → e x = some b) (hV : ∀ x m, m ≤ 2001 → V x m → W x) : Sd f g (fun x r => r = e x) W := by
  refine ⟨fun B a bad hB ha => ?_, fun B at_ err bad he => ?_⟩
  · rcases h.run B a bad hB ha with ⟨err, x, at_, he, h1, h2, hw⟩ | ⟨x, n, han, hn, h1, h2, hr, hw⟩
    · exact .inl ⟨err, x, at_, bad, he, h1, h2, hV _ _ (by omega) hw⟩
    · exact .inr ⟨x, n, bad, _, han, hn, h1, h2, hV _ _ (by omega) hw, rfl, id, fun hb => by rw [hR x _ hr]; exact ⟨hb, rfl⟩⟩
  · obtain ⟨x, h1, hw⟩ := h.stay B at_ err bad he
    exact ⟨x, at_, bad, h1, hV _ _ (by omega) hw⟩
theorem qqT {fuel : Nat} (hfu : 40 ≤ fuel) : Sd (qae fuel 0) (qU fuel 1) (fun l r => r = some (encN l.length ++ bL l)) (fun l => wtL l ≤ 2001) :=
  (qoX 20 0 rfl fuel fuel (by omega) (by omega)).sd (e := fun l => some (encN l.length ++ bL l)) (fun l b h => by rw [h]) (fun l m hm h => Nat.le_trans h hm)
theorem qqH {fuel : Nat} (hfu : 40 ≤ fuel) : Sd (qfc fuel 0) (qda fuel 1) (fun t r => r = some (bT t)) (fun t => wt t ≤ 2001) := by
  have h := qrr (fuel := fuel) (by omega) (recP := qae fuel) (recQ := qU fuel) 0 (by omega) fun _ => qoX 19 1 rfl fuel fuel (by omega) (by omega)
  exact h.sd (e := fun t => some (bT t)) (fun l b h => by rw [h]) (fun l m hm h => Nat.le_trans h hm)
theorem qiD {α β : Type} (b : Bool) (x y : Option α) (f : α → Option β) : (bif b then x else y).bind f = bif b then x.bind f else y.bind f := by cases b <;> rfl
section
variable {α : Type} {f : RR → Option (Int ⊕ (α × RR))} {g : QQ → Option (α × QQ)} {R : α → Option (List Int) → Prop} {W W2 : α → Prop}
theorem qrS (x : α) (ok : Bool) {X : Option Bool} (hX : X = some ok) : Sd (fun c => some (.inr (x, c))) (fun c => bif c.f3_bad then some (x, (⟨c.f0_b, c.f1_at, c.f2_e, true⟩ : QQ)) else X.bind fun r => some (x, (⟨c.f0_b, c.f1_at, c.f2_e, !r⟩ : QQ))) (fun y r => y = x ∧ r = if ok = true then some [] else none) (fun y => y = x) := by
  subst hX
  refine ⟨fun B a bad hB ha => .inr ⟨x, a, bad || !ok, _, by omega, ha, rfl, ?_, rfl, ⟨rfl, rfl⟩, fun h => by rw [h]; rfl, fun h => ?_⟩, fun B at_ err bad he => ⟨x, at_, bad || !ok, ?_, rfl⟩⟩
  · cases bad <;> rfl
  · rw [h, qou]
    cases ok
    · exact rfl
    · exact ⟨rfl, rfl⟩
  · cases bad <;> rfl
theorem Sd.if0 {z : α} (h : Sd f g R W) (hz : W z) : Sd f (fun c => bif c.f2_e == (0 : Int) then g c else some (z, c)) R W := by
  refine ⟨fun B a bad hB ha => by simpa only [beq_self_eq_true, cond_true] using h.run B a bad hB ha, fun B at_ err bad he => ⟨z, at_, bad, ?_, hz⟩⟩
  have : (err == 0) = false := by simpa using he
  simp only [this, cond_false]
theorem Sd.and (h : Sd f g R W) (h2 : ∀ (B : List UInt8) (at_ e : Int) (bad : Bool), B.length ≤ 2000 → (e = 0 → ∃ a : Nat, at_ = (a : Int) ∧ a ≤ B.length) → ∀ x q, g ⟨toY B, at_, e, bad⟩ = some (x, q) → W2 x) (hs : ∀ (B : List UInt8) (at_ e : Int) (bad : Bool), e ≠ 0 → ∀ x q, g ⟨toY B, at_, e, bad⟩ = some (x, q) → W2 x) : Sd f g R (fun x => W x ∧ W2 x) := by
  refine ⟨fun B a bad hB ha => ?_, fun B at_ err bad he => ?_⟩
  · rcases h.run B a bad hB ha with ⟨err, x, at', bad', he, h1, h3, hw⟩ | ⟨x, n, bad', r, han, hn, h1, h3, hw, hr, m1, o1⟩
    · exact .inl ⟨err, x, at', bad', he, h1, h3, hw, h2 B a 0 bad hB (fun _ => ⟨a, rfl, ha⟩) _ _ h3⟩
    · exact .inr ⟨x, n, bad', r, han, hn, h1, h3, ⟨hw, h2 B a 0 bad hB (fun _ => ⟨a, rfl, ha⟩) _ _ h3⟩, hr, m1, o1⟩
  · obtain ⟨x, at', bad', h1, hw⟩ := h.stay B at_ err bad he
    exact ⟨x, at', bad', h1, hw, hs B at_ err bad he _ _ h1⟩
end
theorem qqM {fuel : Nat} (hfu : 10 ≤ fuel) (k : Int) : Sd (qq k k) (qi fuel k k) (fun _ r => r = eNum k k k) (fun _ => True) := by
  refine ⟨fun B a bad hB ha => ?_, fun B at_ err bad he => ⟨0, at_, bad, qkv fuel k k _ at_ err bad he, trivial⟩⟩
  rcases qiY hfu k k B a hB ha with ⟨err, he, h1, h2⟩ | ⟨x, n, han, hn, hx0, hx6, h1, h2, h3⟩
  · exact .inl ⟨err, 0, 0, bad, he, h1, h2 bad, trivial⟩
  · obtain rfl : x = k := by omega
    refine .inr ⟨x, n, bad, _, by omega, hn, h1, h2 bad, trivial, rfl, id, fun h => ?_⟩
    unfold eNum
    rw [if_pos ⟨hx0, hx6⟩]
    exact ⟨h, h3⟩
/-! ### constraints and goals -/
def WA (a : At) : Prop := wtL a.ts ≤ 2001
def WG (g : Gl) : Prop := wtL g.ts ≤ 2001
theorem qo2 {fuel : Nat} (hfu : 40 ≤ fuel) : Sd (qbE fuel) (qat fuel) (fun x r => r = eAtom x) WA := by
  unfold qbE qat
  refine Sd.bind (qlE (fuel := fuel) (by omega)) fun n hn => ?_
  dsimp only
  refine Sd.bind (e := fun l => some (encN l.length ++ bL l)) (qqT hfu) fun ts hts => ?_
  dsimp only
  refine (qrS (⟨n, ts⟩ : At) (rightA ⟨n, ts⟩) (qmb _ (by dsimp only; omega))).mono (fun y r h => ?_) (fun y h => by rw [h]; exact hts)
  obtain ⟨rfl, rfl⟩ := h
  unfold eAtom
  by_cases hr : rightA ⟨n, ts⟩ = true
  · rw [if_pos hr, if_pos hr, qlY hn]
    simp only [catO, Option.bind_some, List.append_nil]
    rfl
  · rw [if_neg hr, if_neg hr]
    cases eText n <;> rfl
theorem qrH {fuel : Nat} (hfu : 40 ≤ fuel) : Sd (qbY fuel) (qbk fuel) (fun x r => r = eGoal x) WG := by
  unfold qbY qbk
  refine Sd.bind (qh5 (fuel := fuel) (by omega) 0 12) fun op _ => ?_
  dsimp only
  refine Sd.bind (qlE (fuel := fuel) (by omega)) fun n hn => ?_
  dsimp only
  refine Sd.bind (e := fun l => some (encN l.length ++ bL l)) (qqT hfu) fun ts hts => ?_
  dsimp only
  refine (qrS (⟨op, n, ts⟩ : Gl) (rightG ⟨op, n, ts⟩) (qmJ _ (by dsimp only; omega))).mono (fun y r h => ?_) (fun y h => by rw [h]; exact hts)
  obtain ⟨rfl, rfl⟩ := h
  unfold eGoal
  by_cases hr : rightG ⟨op, n, ts⟩ = true
  · obtain ⟨r0, r1, r2, r3, r4⟩ := qnR hr
    rw [if_pos hr, if_pos hr, qlY hn, qkl r0 r1]
    simp only [catO, Option.bind_some, List.append_nil]
    rfl
  · rw [if_neg hr, if_neg hr]
    cases eNum 0 12 op <;> cases eText n <;> rfl
/-! ### lists of them -/
theorem qmR (fuel : Nat) : ∀ (n : Nat) (out : List At) (c : QQ), qaD (fun o r => some (o, r)) fuel n out c = runQ (qat fuel) 40 n out c
  | 0, out, c => rfl
  | n + 1, out, c => by
    rw [qaD, runQ]
    simp only [qmR fuel n]
theorem qmP (fuel : Nat) : ∀ (n : Nat) (out : List Gl) (c : QQ), qaB (fun o r => some (o, r)) fuel n out c = runQ (qbk fuel) 48 n out c
  | 0, out, c => rfl
  | n + 1, out, c => by
    rw [qaB, runQ]
    simp only [qmP fuel n]
theorem qmY (fuel : Nat) (h : Int) : ∀ (n : Nat) (out : List Int) (c : QQ), qaH (fun o r => some (o, r)) fuel h n out c = runQ (qi fuel 0 h) 8 n out c
  | 0, out, c => rfl
  | n + 1, out, c => by
    rw [qaH, runQ]
    simp only [qmY fuel h n]
theorem qpG {fuel : Nat} (hfu : 40 ≤ fuel) : Sd (qeb fuel 4) (qaO fuel) (fun l r => r = eList 4 eAtom l) (fun l => ∀ x ∈ l, WA x) :=
  ((qiC (fuel := fuel) (sz := 40) (by omega) (by omega) (most := 4) (by omega) (by omega) (qo2 hfu)).congr (fun c => by
    unfold qeb
    simp only [qph]) (fun c => by
    unfold qaO
    simp only [qmR])).mono (fun _ _ h => h) (fun _ h => h.1)
theorem qpS {fuel : Nat} (hfu : 40 ≤ fuel) : Sd (qed fuel 12) (qaQ fuel) (fun l r => r = eList 12 eGoal l) (fun l => ∀ x ∈ l, WG x) :=
  ((qiC (fuel := fuel) (sz := 48) (by omega) (by omega) (most := 12) (by omega) (by omega) (qrH hfu)).congr (fun c => by
    unfold qed
    simp only [qpx]) (fun c => by
    unfold qaQ
    simp only [qmP])).mono (fun _ _ h => h) (fun _ h => h.1)
theorem qlw {fuel : Nat} (hfu : 10 ≤ fuel) (most hi : Int) (h0 : 0 ≤ most) (hm : most ≤ 10000000) : Sd (qay most hi) (qM fuel most hi) (fun l r => r = eNums most hi l) (fun _ => True) :=
  ((qiC (fuel := fuel) (sz := 8) hfu (by omega) h0 hm (qh5 (fuel := fuel) hfu 0 hi)).congr (fun c => by
    unfold qay qfq
    have : qbQ hi = qq 0 hi := funext fun c => by
      unfold qbQ
      rw [qnA]
    simp only [qnQ, qnA, this]) (fun c => by
    unfold qM
    simp only [qmY])).mono (fun _ _ h => h) (fun _ _ => trivial)
/-! ### programs -/
noncomputable def oneDecl (fuel : Nat) (c : QQ) : Option (S_api_Decl × QQ) := (qI fuel c).bind fun r => (qi fuel 0 6 r.2).bind fun q => some (⟨r.1, q.1⟩, q.2)
noncomputable def oneRule (fuel : Nat) (c : QQ) : Option (qak × QQ) := (qI fuel c).bind fun r_32 => (qaO fuel r_32.2).bind fun r_34 => (qaO fuel r_34.2).bind fun r_35 => (qaQ fuel r_35.2).bind fun r_36 => (qaQ fuel r_36.2).bind fun r_37 => (qi fuel 0 1048576 r_37.2).bind fun r_38 => some (⟨r_32.1, r_34.1, r_35.1, r_36.1, r_37.1, r_38.1⟩, r_38.2)
theorem qtw {fuel : Nat} (hfu : 40 ≤ fuel) : Sd qb4 (oneDecl fuel) (fun x r => r = eDecl x) (fun d => d.f0_Name.size ≤ 2000) := by
  unfold qb4 oneDecl
  refine Sd.bind (qlE (fuel := fuel) (by omega)) fun n hn => ?_
  dsimp only
  exact Sd.last (y := fun k => (⟨n, k⟩ : S_api_Decl)) (qh5 (fuel := fuel) (by omega) 0 6) (fun k _ => rfl) (fun k _ => by dsimp only; omega)
theorem qts {fuel : Nat} (hfu : 40 ≤ fuel) : Sd (qcY fuel) (oneRule fuel) (fun x r => r = eRule x) RuleS := by
  unfold qcY oneRule
  refine Sd.bind (qlE (fuel := fuel) (by omega)) fun n hn => ?_
  dsimp only
  refine Sd.bind (qpG hfu) fun l1 h1 => ?_
  dsimp only
  refine Sd.bind (qpG hfu) fun l2 h2 => ?_
  dsimp only
  refine Sd.bind (qpS hfu) fun l3 h3 => ?_
  dsimp only
  refine Sd.bind (qpS hfu) fun l4 h4 => ?_
  dsimp only
  exact Sd.last (y := fun k => (⟨n, l1, l2, l3, l4, k⟩ : qak)) (qh5 (fuel := fuel) (by omega) 0 1048576) (fun k _ => rfl) (fun k _ => ⟨by dsimp only; omega, fun y hy => Nat.le_trans (h1 y hy) (by omega), fun y hy => Nat.le_trans (h2 y hy) (by omega), fun y hy => Nat.le_trans (h3 y hy) (by omega), fun y hy => Nat.le_trans (h4 y hy) (by omega)⟩)
theorem qmn (k : QQ → List S_api_Decl → List qak → Option (qad × Int)) (fuel : Nat) : ∀ (n : Nat) (c : QQ) (p : List S_api_Decl) (q : List qak), qa4 k fuel n c p q = (runQ (oneDecl fuel) 24 n p c).bind fun y => k y.2 y.1 q
  | 0, c, p, q => rfl
  | n + 1, c, p, q => by
    rw [qa4, runQ]
    simp only [qmn k fuel n, oneDecl, Option.bind_assoc, Option.bind_some, qiD]
theorem qmi (k : QQ → List S_api_Decl → List qak → Option (qad × Int)) (fuel : Nat) : ∀ (n : Nat) (c : QQ) (p : List S_api_Decl) (q : List qak), qa3 k fuel n c p q = (runQ (oneRule fuel) 120 n q c).bind fun y => k y.2 p y.1
  | 0, c, p, q => rfl
  | n + 1, c, p, q => by
    rw [qa3, runQ]
    simp only [qmi k fuel n, oneRule, Option.bind_assoc, Option.bind_some, qiD]
theorem qsu {fuel : Nat} (hfu : 40 ≤ fuel) : Sd (qe6 30) (fun c => (qi fuel 0 30 c).bind fun r => runQ (oneDecl fuel) 24 (r.1 - 0 : Int).toNat [] r.2) (fun l r => r = eList 30 eDecl l) (fun l => ∀ x ∈ l, x.f0_Name.size ≤ 2000) :=
  ((qiC (fuel := fuel) (sz := 24) (by omega) (by omega) (most := 30) (by omega) (by omega) (qtw hfu)).congr (fun c => by
    unfold qe6
    simp only [qpF]) (fun c => rfl)).mono (fun _ _ h => h) (fun _ h => h.1)
theorem qsx {fuel : Nat} (hfu : 40 ≤ fuel) : Sd (qe4 fuel 40) (fun c => (qi fuel 0 40 c).bind fun r => runQ (oneRule fuel) 120 (r.1 - 0 : Int).toNat [] r.2) (fun l r => r = eList 40 eRule l) (fun l => ∀ x ∈ l, RuleS x) :=
  ((qiC (fuel := fuel) (sz := 120) (by omega) (by omega) (most := 40) (by omega) (by omega) (qts hfu)).congr (fun c => by
    unfold qe4
    simp only [qpK]) (fun c => rfl)).mono (fun _ _ h => h) (fun _ h => h.1)
def WP (p : qad) : Prop := (∀ x ∈ p.f0_Decls, x.f0_Name.size ≤ 2000) ∧ ∀ x ∈ p.f1_Rules, RuleS x
noncomputable def gProgram (fuel : Nat) (c : QQ) : Option (qad × QQ) := (qi fuel 1 1 c).bind fun r => ((qi fuel 0 30 r.2).bind fun r => runQ (oneDecl fuel) 24 (r.1 - 0 : Int).toNat [] r.2).bind fun d => ((qi fuel 0 40 d.2).bind fun r => runQ (oneRule fuel) 120 (r.1 - 0 : Int).toNat [] r.2).bind fun q => some (⟨d.1, q.1⟩, q.2)
theorem qp4 {fuel : Nat} (hfu : 40 ≤ fuel) : Sd (fun c => bindX (qq 1 1 c) fun r => qcu fuel r.2) (gProgram fuel) (fun x r => r = eProgram x) WP := by
  unfold qcu gProgram
  refine Sd.bind (e := fun _ => eNum 1 1 1) (qqM (fuel := fuel) (by omega) 1) fun n hn => ?_
  dsimp only
  refine Sd.bind (qsu hfu) fun l1 h1 => ?_
  dsimp only
  exact Sd.last (y := fun k => (⟨l1, k⟩ : qad)) (qsx hfu) (fun k _ => rfl) (fun k hk => ⟨h1, hk⟩)
theorem qo0 (fuel : Nat) (b : List Int) : qb7 fuel b = (gProgram fuel ⟨b, 0, 0, false⟩).bind fun q => (qaw q.2).bind fun r => bif r != 0 then some (⟨[], []⟩, r) else some (q.1, 0) := by
  unfold qb7 gProgram
  simp only [qmn, qmi, Option.bind_assoc, Option.bind_some]
theorem qtm {e : List Int} (h : e ≠ []) : ((e.length : Int) == 0) = false := by
  have := List.length_pos_iff.2 h
  rw [beq_eq_false_iff_ne]
  omega
/-! ### states -/
def WF (x : qL) : Prop := wtL x.f0_Goal.ts ≤ 2001
theorem qsJ {fuel : Nat} (hfu : 40 ≤ fuel) : Sd (qcx fuel) (qaP fuel) (fun x r => r = eFrame x) WF := by
  unfold qcx qaP
  refine Sd.bind (qh5 (fuel := fuel) (by omega) 0 2147483648) fun i hi => ?_
  dsimp only
  refine Sd.bind (qh5 (fuel := fuel) (by omega) (-1) 2147483648) fun o ho => ?_
  dsimp only
  by_cases h0 : i = 0
  · have e0 : (i == 0) = true := by simpa using h0
    simp only [e0, cond_true]
    refine Sd.if0 (Sd.last (y := fun k => (⟨k, i, o⟩ : qL)) (qrH hfu) (fun k _ => ?_) (fun k hk => hk)) (Nat.zero_le _)
    show catO _ (catO _ (eGoal k)) = eFrame ⟨k, i, o⟩
    unfold eFrame
    rw [if_pos h0]
  · have e0 : (i == 0) = false := by simpa using h0
    simp only [e0, cond_false]
    refine Sd.pure ?_ (Nat.zero_le _)
    unfold eFrame
    have hz : (⟨#[]⟩ : ByteArray).toList = [] := List.eq_nil_of_length_eq_zero (by rw [qjN]; rfl)
    rw [if_neg h0, if_pos ⟨rfl, hz, rfl⟩]
noncomputable def oneItem (fuel : Nat) (c : QQ) : Option ((Int × At) × QQ) := (qi fuel 0 2147483648 c).bind fun r => (qat fuel r.2).bind fun q => some ((r.1, q.1), q.2)
noncomputable def oneBind (fuel : Nat) (c : QQ) : Option ((Int × T) × QQ) := (qi fuel 0 1048576 c).bind fun r => (qda fuel 1 r.2).bind fun t => bif t.2.f3_bad then some ((r.1, t.1), ⟨t.2.f0_b, t.2.f1_at, t.2.f2_e, true⟩) else (qkt t.1).bind fun ok => some ((r.1, t.1), ⟨t.2.f0_b, t.2.f1_at, t.2.f2_e, !ok⟩)
noncomputable def oneFire (fuel : Nat) (c : QQ) : Option (qY × QQ) := (qi fuel 0 40 c).bind fun r => (qM fuel 4 2147483648 r.2).bind fun q => some (⟨r.1, q.1⟩, q.2)
theorem qtu {fuel : Nat} (hfu : 40 ≤ fuel) : Sd (qbF fuel) (oneItem fuel) (fun x r => r = eItem x) (fun x => WA x.2) := by
  unfold qbF oneItem
  refine Sd.bind (qh5 (fuel := fuel) (by omega) 0 2147483648) fun n hn => ?_
  dsimp only
  exact Sd.last (y := fun k => (n, k)) (qo2 hfu) (fun k _ => rfl) (fun k hk => hk)
theorem qq3 {fuel : Nat} (hfu : 40 ≤ fuel) : Sd (qbp fuel) (oneBind fuel) (fun x r => r = eBind x) (fun x => wt x.2 ≤ 2001) := by
  unfold qbp oneBind
  refine Sd.bind (qh5 (fuel := fuel) (by omega) 0 1048576) fun n hn => ?_
  dsimp only
  refine Sd.bind (e := fun t => some (bT t)) (qqH hfu) fun t ht => ?_
  dsimp only
  refine (qrS (n, t) (rightT t) (qmI _ (by omega))).mono (fun y r h => ?_) (fun y h => by rw [h]; exact ht)
  obtain ⟨rfl, rfl⟩ := h
  unfold eBind eT
  dsimp only
  by_cases hr : rightT t = true
  · rw [if_pos hr, if_pos hr]
    cases eNum 0 1048576 n <;> simp [catO]
  · rw [if_neg hr, if_neg hr]
    cases eNum 0 1048576 n <;> rfl
theorem qtv {fuel : Nat} (hfu : 40 ≤ fuel) : Sd qce (oneFire fuel) (fun x r => r = eFire x) (fun _ => True) := by
  unfold qce oneFire
  refine Sd.bind (qh5 (fuel := fuel) (by omega) 0 40) fun n hn => ?_
  dsimp only
  exact Sd.last (y := fun k => (⟨n, k⟩ : qY)) (qlw (fuel := fuel) (by omega) 4 2147483648 (by omega) (by omega)) (fun k _ => rfl) (fun k hk => trivial)
section
variable (fuel : Nat) (k : QQ → List qL → List (Int × At) → List (Int × T) → List qY → Int → Int → Bool → Option (qai × Int))
theorem qlI : ∀ (n : Nat) (c : QQ) (a1 : List qL) (a2 : List (Int × At)) (a3 : List (Int × T)) (a4 : List qY) (a5 a6 : Int) (a7 : Bool), qbb k fuel n c a1 a2 a3 a4 a5 a6 a7 = (runQ (qaP fuel) 64 n a1 c).bind fun y => k y.2 y.1 a2 a3 a4 a5 a6 a7
  | 0, c, _, _, _, _, _, _, _ => rfl
  | n + 1, c, a1, a2, a3, a4, a5, a6, a7 => by
    rw [qbb, runQ]
    simp only [qlI n, Option.bind_assoc, Option.bind_some, qiD]
theorem qlZ : ∀ (n : Nat) (c : QQ) (a1 : List qL) (a2 : List (Int × At)) (a3 : List (Int × T)) (a4 : List qY) (a5 a6 : Int) (a7 : Bool), qba k fuel n c a1 a2 a3 a4 a5 a6 a7 = (runQ (oneItem fuel) 48 n a2 c).bind fun y => k y.2 a1 y.1 a3 a4 a5 a6 a7
  | 0, c, _, _, _, _, _, _, _ => rfl
  | n + 1, c, a1, a2, a3, a4, a5, a6, a7 => by
    rw [qba, runQ]
    simp only [qlZ n, oneItem, Option.bind_assoc, Option.bind_some, qiD]
theorem qmd : ∀ (n : Nat) (c : QQ) (a1 : List qL) (a2 : List (Int × At)) (a3 : List (Int × T)) (a4 : List qY) (a5 a6 : Int) (a7 : Bool), qaN k fuel n c a1 a2 a3 a4 a5 a6 a7 = (runQ (oneBind fuel) 64 n a3 c).bind fun y => k y.2 a1 a2 y.1 a4 a5 a6 a7
  | 0, c, _, _, _, _, _, _, _ => rfl
  | n + 1, c, a1, a2, a3, a4, a5, a6, a7 => by
    rw [qaN, runQ]
    simp only [qmd n, oneBind, Option.bind_assoc, Option.bind_some, qiD]
theorem qmA : ∀ (n : Nat) (c : QQ) (a1 : List qL) (a2 : List (Int × At)) (a3 : List (Int × T)) (a4 : List qY) (a5 a6 : Int) (a7 : Bool), qa8 k fuel n c a1 a2 a3 a4 a5 a6 a7 = (runQ (oneFire fuel) 32 n a4 c).bind fun y => k y.2 a1 a2 a3 y.1 a5 a6 a7
  | 0, c, _, _, _, _, _, _, _ => rfl
  | n + 1, c, a1, a2, a3, a4, a5, a6, a7 => by
    rw [qa8, runQ]
    simp only [qmA n, oneFire, Option.bind_assoc, Option.bind_some, qiD]
end
theorem qn8 {fuel : Nat} (hfu : 40 ≤ fuel) (B : List UInt8) (hB : B.length ≤ 2000) : ∀ (n : Nat) (out : List (Int × T)) (a : Nat) (bad : Bool), a ≤ B.length → out.length + n ≤ 10000000 → ∀ x q, runQ (oneBind fuel) 64 n out ⟨toY B, (a : Int), 0, bad⟩ = some (x, q) → x.length ≤ out.length + (B.length - a) + 1
  | 0, out, a, bad, ha, hn, x, q, h => by
    obtain ⟨rfl, rfl⟩ := Prod.mk.inj (Option.some.inj h)
    omega
  | n + 1, out, a, bad, ha, hn, x, q, h => by
    have happ : ∀ y, appO 64 out [y] = some (out ++ [y]) := fun y => qoP (by simp only [List.length_cons, List.length_nil]; omega) (by simp only [List.length_cons, List.length_nil]; omega)
    simp only [runQ, beq_self_eq_true, cond_true] at h
    rcases (qq3 hfu).run B a bad hB ha with ⟨err, y, at_, bad', he, h1, h2, hw⟩ | ⟨y, m, bad', r, ham, hm, h1, h2, hw, hr, m1, o1⟩
    · simp only [h2, Option.bind_some, happ, qiN 64 n _ (toY B) at_ err bad' he] at h
      obtain ⟨rfl, rfl⟩ := Prod.mk.inj (Option.some.inj h)
      simp only [List.length_append, List.length_singleton]
      omega
    · simp only [h2, Option.bind_some, happ] at h
      have hlt : a < m := by
        rcases qiY (fuel := fuel) (by omega) 0 1048576 B a hB ha with ⟨err, he, h3, h4⟩ | ⟨k, n1, han, hn1, _, _, h3, h4, h5⟩
        · unfold qbp at h1
          rw [h3] at h1
          cases h1
        · unfold qbp at h1
          rw [h3, qhL] at h1
          rcases (qqH hfu).run B n1 bad hB hn1 with ⟨err, y', at_, bad2, he, h6, _⟩ | ⟨y', m', bad2, r', hm1, hm2, h6, _⟩
          · simp only [h6] at h1
            cases h1
          · simp only [h6] at h1
            have e1 : (m' : Int) = (m : Int) := congrArg (fun q : Option (Int ⊕ ((Int × T) × RR)) => match q with | some (.inr z) => z.2.f1_at | _ => 0) h1
            omega
      have ih := qn8 hfu B hB n (out ++ [y]) m bad' hm (by simp only [List.length_append, List.length_singleton]; omega) x q h
      simp only [List.length_append, List.length_singleton] at ih
      omega
theorem qq9 {fuel : Nat} (hfu : 40 ≤ fuel) : Sd (qfb fuel 1000) (fun c => (qi fuel 0 1000 c).bind fun r => runQ (qaP fuel) 64 (r.1 - 0 : Int).toNat [] r.2) (fun l r => r = eList 1000 eFrame l) (fun l => ∀ x ∈ l, WF x) :=
  ((qiC (fuel := fuel) (sz := 64) (by omega) (by omega) (most := 1000) (by omega) (by omega) (qsJ hfu)).congr (fun c => by
    unfold qfb
    simp only [qpN]) (fun c => rfl)).mono (fun _ _ h => h) (fun _ h => h.1)
theorem qsK {fuel : Nat} (hfu : 40 ≤ fuel) : Sd (qe8 fuel 500) (fun c => (qi fuel 0 500 c).bind fun r => runQ (oneItem fuel) 48 (r.1 - 0 : Int).toNat [] r.2) (fun l r => r = eList 500 eItem l) (fun l => ∀ x ∈ l, WA x.2) :=
  ((qiC (fuel := fuel) (sz := 48) (by omega) (by omega) (most := 500) (by omega) (by omega) (qtu hfu)).congr (fun c => by
    unfold qe8
    simp only [qpo]) (fun c => rfl)).mono (fun _ _ h => h) (fun _ h => h.1)
theorem qrZ {fuel : Nat} (hfu : 40 ≤ fuel) : Sd (qeT fuel 1048576) (fun c => (qi fuel 0 1048576 c).bind fun r => runQ (oneBind fuel) 64 (r.1 - 0 : Int).toNat [] r.2) (fun l r => r = eList 1048576 eBind l) (fun l => (∀ x ∈ l, wt x.2 ≤ 2001) ∧ l.length ≤ 2001) :=
  (((qiC (fuel := fuel) (sz := 64) (by omega) (by omega) (most := 1048576) (by omega) (by omega) (qq3 hfu)).congr (fun c => by
    unfold qeT
    simp only [qpL]) (fun c => rfl)).and (W2 := fun l => l.length ≤ 2001) (fun B at_ e bad hB hat x q h => by
      by_cases he : e = 0
      · subst he
        obtain ⟨a, rfl, ha⟩ := hat rfl
        rcases qiY (fuel := fuel) (by omega) 0 1048576 B a hB ha with ⟨err, he, h3, h4⟩ | ⟨k, n1, han, hn1, hk0, hk1, h3, h4, h5⟩
        · simp only [h4 bad, Option.bind_some, qiN 64 _ _ (toY B) _ err bad he] at h
          obtain ⟨rfl, rfl⟩ := Prod.mk.inj (Option.some.inj h)
          exact Nat.zero_le _
        · simp only [h4 bad, Option.bind_some] at h
          have := qn8 hfu B hB _ [] n1 bad hn1 (by simp only [List.length_nil]; omega) x q h
          simp only [List.length_nil] at this
          omega
      · simp only [qkv fuel _ _ _ _ e _ he, Option.bind_some, qiN 64 _ _ (toY B) _ e bad he] at h
        obtain ⟨rfl, rfl⟩ := Prod.mk.inj (Option.some.inj h)
        exact Nat.zero_le _) (fun B at_ e bad he x q h => by
        simp only [qkv fuel _ _ _ _ e _ he, Option.bind_some, qiN 64 _ _ (toY B) _ e bad he] at h
        obtain ⟨rfl, rfl⟩ := Prod.mk.inj (Option.some.inj h)
        exact Nat.zero_le _)).mono (fun _ _ h => h) (fun _ h => ⟨h.1.1, h.2⟩)
theorem qsC {fuel : Nat} (hfu : 40 ≤ fuel) : Sd (qeY 5000) (fun c => (qi fuel 0 5000 c).bind fun r => runQ (oneFire fuel) 32 (r.1 - 0 : Int).toNat [] r.2) (fun l r => r = eList 5000 eFire l) (fun _ => True) :=
  ((qiC (fuel := fuel) (sz := 32) (by omega) (by omega) (most := 5000) (by omega) (by omega) (qtv hfu)).congr (fun c => by
    unfold qeY
    simp only [qpm]) (fun c => rfl)).mono (fun _ _ h => h) (fun _ _ => trivial)
noncomputable def gConfig (fuel : Nat) (c : QQ) : Option (qai × QQ) := (qi fuel 2 2 c).bind fun r => ((qi fuel 0 1000 r.2).bind fun r => runQ (qaP fuel) 64 (r.1 - 0 : Int).toNat [] r.2).bind fun c1 => ((qi fuel 0 500 c1.2).bind fun r => runQ (oneItem fuel) 48 (r.1 - 0 : Int).toNat [] r.2).bind fun c2 => ((qi fuel 0 1048576 c2.2).bind fun r => runQ (oneBind fuel) 64 (r.1 - 0 : Int).toNat [] r.2).bind fun c3 => ((qi fuel 0 5000 c3.2).bind fun r => runQ (oneFire fuel) 32 (r.1 - 0 : Int).toNat [] r.2).bind fun c4 => (qi fuel 0 2147483648 c4.2).bind fun c5 => (qi fuel 0 1048576 c5.2).bind fun c6 => (qaG c6.2).bind fun c7 => some (⟨c1.1, c2.1, c3.1, c4.1, c5.1, c6.1, c7.1⟩, c7.2)
theorem qrj {fuel : Nat} (hfu : 40 ≤ fuel) : Sd (fun c => bindX (qq 2 2 c) fun r => qc3 fuel r.2) (gConfig fuel) (fun x r => r = eConfig x) ConfigS := by
  unfold qc3 gConfig
  refine Sd.bind (e := fun _ => eNum 2 2 2) (qqM (fuel := fuel) (by omega) 2) fun n hn => ?_
  dsimp only
  refine Sd.bind (qq9 hfu) fun l1 h1 => ?_
  dsimp only
  refine Sd.bind (qsK hfu) fun l2 h2 => ?_
  dsimp only
  refine Sd.bind (qrZ hfu) fun l3 h3 => ?_
  dsimp only
  refine Sd.bind (qsC hfu) fun l4 h4 => ?_
  dsimp only
  refine Sd.bind (qh5 (fuel := fuel) (by omega) 0 2147483648) fun n5 _ => ?_
  dsimp only
  refine Sd.bind (qh5 (fuel := fuel) (by omega) 0 1048576) fun n6 _ => ?_
  dsimp only
  exact Sd.last (y := fun k => (⟨l1, l2, l3, l4, n5, n6, k⟩ : qai)) qrN (fun k _ => rfl) (fun k _ => ⟨fun x hx => Nat.le_trans (h1 x hx) (by omega), fun x hx => Nat.le_trans (h2 x hx) (by omega), fun x hx => Nat.le_trans (h3.1 x hx) (by omega), Nat.le_trans h3.2 (by omega)⟩)
theorem qp2 (fuel : Nat) (b : List Int) : qcc fuel b = (gConfig fuel ⟨b, 0, 0, false⟩).bind fun q => (qaw q.2).bind fun r => bif r != 0 then some (⟨[], [], [], [], 0, 0, false⟩, r) else some (q.1, 0) := by
  unfold qcc gConfig
  simp only [qlI, qlZ, qmd, qmA, Option.bind_assoc, Option.bind_some]
/-! ### memories -/
noncomputable def oneFact (fuel : Nat) (c : QQ) : Option (qZ × QQ) := (qi fuel 0 2147483648 c).bind fun r => (qat fuel r.2).bind fun a => (qM fuel 64 64 a.2).bind fun q => some (⟨r.1, a.1, q.1⟩, q.2)
noncomputable def oneApplied (fuel : Nat) (c : QQ) : Option (qah × QQ) := (qi fuel 0 40 c).bind fun r_28 => (qM fuel 4 2147483648 r_28.2).bind fun r_30 => (qM fuel 4 2147483648 r_30.2).bind fun r_31 => (qM fuel 12 2147483648 r_31.2).bind fun r_32 => (qaG r_32.2).bind fun r_33 => (qM fuel 64 64 r_33.2).bind fun r_34 => some (⟨r_28.1, r_30.1, r_31.1, r_32.1, r_33.1, r_34.1⟩, r_34.2)
def WFa (x : qZ) : Prop := wtL x.f1_Atom.ts ≤ 1000000000
theorem qth {fuel : Nat} (hfu : 40 ≤ fuel) : Sd (qcX fuel) (oneFact fuel) (fun x r => r = eFact x) WFa := by
  have h : Sd (fun c => bindX (qq 0 2147483648 c) fun r => bindX (qbE fuel r.2) fun a => bindX (qay 64 64 a.2) fun q => some (.inr ((⟨r.1, a.1, q.1⟩ : qZ), q.2))) (oneFact fuel) (fun x r => r = eFact x) WFa := by
    unfold oneFact
    refine Sd.bind (qh5 (fuel := fuel) (by omega) 0 2147483648) fun n hn => ?_
    dsimp only
    refine Sd.bind (qo2 hfu) fun a ha => ?_
    dsimp only
    exact Sd.last (y := fun k => (⟨n, a, k⟩ : qZ)) (qlw (fuel := fuel) (by omega) 64 64 (by omega) (by omega)) (fun k _ => rfl) (fun k _ => Nat.le_trans ha (by omega))
  refine h.congr (fun c => ?_) (fun c => rfl)
  unfold qcX qbF
  simp only [qj3, qhL]
theorem qp1 {fuel : Nat} (hfu : 40 ≤ fuel) : Sd qb8 (oneApplied fuel) (fun x r => r = eApplied x) (fun _ => True) := by
  unfold qb8 oneApplied
  refine Sd.bind (qh5 (fuel := fuel) (by omega) 0 40) fun n1 _ => ?_
  dsimp only
  refine Sd.bind (qlw (fuel := fuel) (by omega) 4 2147483648 (by omega) (by omega)) fun n2 _ => ?_
  dsimp only
  refine Sd.bind (qlw (fuel := fuel) (by omega) 4 2147483648 (by omega) (by omega)) fun n3 _ => ?_
  dsimp only
  refine Sd.bind (qlw (fuel := fuel) (by omega) 12 2147483648 (by omega) (by omega)) fun n4 _ => ?_
  dsimp only
  refine Sd.bind qrN fun n5 _ => ?_
  dsimp only
  exact Sd.last (y := fun k => (⟨n1, n2, n3, n4, n5, k⟩ : qah)) (qlw (fuel := fuel) (by omega) 64 64 (by omega) (by omega)) (fun k _ => rfl) (fun k _ => trivial)
theorem qmj (fuel : Nat) : ∀ (n : Nat) (out : List qZ) (c : QQ), qaC (fun o r => some (o, r)) fuel n out c = runQ (oneFact fuel) 72 n out c
  | 0, out, c => rfl
  | n + 1, out, c => by
    rw [qaC, runQ]
    simp only [qmj fuel n, oneFact, Option.bind_assoc, Option.bind_some]
theorem qpB {fuel : Nat} (hfu : 40 ≤ fuel) : Sd (qd7 fuel 5000) (qaS fuel) (fun l r => r = eList 5000 eFact l) (fun l => ∀ x ∈ l, WFa x) :=
  ((qiC (fuel := fuel) (sz := 72) (by omega) (by omega) (most := 5000) (by omega) (by omega) (qth hfu)).congr (fun c => by
    unfold qd7
    simp only [qnW]) (fun c => by
    unfold qaS
    simp only [qmj])).mono (fun _ _ h => h) (fun _ h => h.1)
theorem qoi (k : QQ → List qZ → List qZ → List qah → Int → Int → Option (qas × Int)) (fuel : Nat) : ∀ (n : Nat) (c : QQ) (a1 a2 : List qZ) (a3 : List qah) (a4 a5 : Int), qa9 k fuel n c a1 a2 a3 a4 a5 = (runQ (oneApplied fuel) 112 n a3 c).bind fun y => k y.2 a1 a2 y.1 a4 a5
  | 0, c, _, _, _, _, _ => rfl
  | n + 1, c, a1, a2, a3, a4, a5 => by
    rw [qa9, runQ]
    simp only [qoi k fuel n, oneApplied, Option.bind_assoc, Option.bind_some, qiD]
theorem qtV {fuel : Nat} (hfu : 40 ≤ fuel) : Sd (qeB 5000) (fun c => (qi fuel 0 5000 c).bind fun r => runQ (oneApplied fuel) 112 (r.1 - 0 : Int).toNat [] r.2) (fun l r => r = eList 5000 eApplied l) (fun _ => True) :=
  ((qiC (fuel := fuel) (sz := 112) (by omega) (by omega) (most := 5000) (by omega) (by omega) (qp1 hfu)).congr (fun c => by
    unfold qeB
    simp only [qoh]) (fun c => rfl)).mono (fun _ _ h => h) (fun _ _ => trivial)
def WM (m : qas) : Prop := (∀ x ∈ m.f0_Facts, wtL x.f1_Atom.ts ≤ 1000000000) ∧ ∀ x ∈ m.f1_Past, wtL x.f1_Atom.ts ≤ 1000000000
noncomputable def gMemory (fuel : Nat) (c : QQ) : Option (qas × QQ) := (qi fuel 3 3 c).bind fun r => (qaS fuel r.2).bind fun c1 => (qaS fuel c1.2).bind fun c2 => ((qi fuel 0 5000 c2.2).bind fun r => runQ (oneApplied fuel) 112 (r.1 - 0 : Int).toNat [] r.2).bind fun c3 => (qi fuel 0 2147483648 c3.2).bind fun c4 => (qi fuel 0 64 c4.2).bind fun c5 => some (⟨c1.1, c2.1, c3.1, c4.1, c5.1⟩, c5.2)
theorem qrk {fuel : Nat} (hfu : 40 ≤ fuel) : Sd (fun c => bindX (qq 3 3 c) fun r => qcU fuel r.2) (gMemory fuel) (fun x r => r = eMemory x) WM := by
  unfold qcU gMemory
  refine Sd.bind (e := fun _ => eNum 3 3 3) (qqM (fuel := fuel) (by omega) 3) fun n hn => ?_
  dsimp only
  refine Sd.bind (qpB hfu) fun l1 h1 => ?_
  dsimp only
  refine Sd.bind (qpB hfu) fun l2 h2 => ?_
  dsimp only
  refine Sd.bind (qtV hfu) fun l3 h3 => ?_
  dsimp only
  refine Sd.bind (qh5 (fuel := fuel) (by omega) 0 2147483648) fun n4 _ => ?_
  dsimp only
  exact Sd.last (y := fun k => (⟨l1, l2, l3, n4, k⟩ : qas)) (qh5 (fuel := fuel) (by omega) 0 64) (fun k _ => rfl) (fun k _ => ⟨h1, h2⟩)
theorem qqc (fuel : Nat) (b : List Int) : qcd fuel b = (gMemory fuel ⟨b, 0, 0, false⟩).bind fun q => (qaw q.2).bind fun r => bif r != 0 then some (⟨[], [], [], 0, 0⟩, r) else some (q.1, 0) := by
  unfold qcd gMemory
  simp only [qoi, Option.bind_assoc, Option.bind_some]
/-! ### whole -/
theorem qnG {α : Type} {f : RR → Option (Int ⊕ (α × RR))} {g : QQ → Option (α × QQ)} {eX : α → Option (List Int)} {W : α → Prop} (z : α) (put : α → Option (List Int)) (h : Sd f g (fun x r => r = eX x) W) (hput : ∀ x, W x → put x = some ((eX x).getD [])) (hne : ∀ x e, eX x = some e → e ≠ []) (B : List UInt8) (hB : B.length ≤ 2000) :
    ∃ (x : α) (er : Int), ((bindX (f ⟨toY B, 0⟩) fun r_5 => bif (decide (r_5.2.f1_at < ((toY B).length : Int))) then some (.inl 3) else ((put r_5.1).bind fun r_8 => bif ((r_8.length : Int) == (0 : Int)) then some (.inl 2) else some (.inr (r_5.1, (0 : Int))))).bind fun r => some (wholeR z r)) = some (x, er) ∧
      ((g ⟨toY B, 0, 0, false⟩).bind fun q => (qaw q.2).bind fun r => bif r != 0 then some (z, r) else some (q.1, 0)) = some (x, er) ∧ (er = 0 → W x ∧ put x = some (toY B)) ∧ (er ≠ 0 → x = z) := by
  have hr := h.run B 0 false hB (Nat.zero_le _)
  rw [show ((0 : Nat) : Int) = 0 from rfl] at hr
  unfold qaw
  rcases hr with ⟨err, x, at_, bad', he, h1, h2, hw⟩ | ⟨x, n, bad', r, han, hn, h1, h2, hw, hr, m1, o1⟩
  · have e1 : (err != 0) = true := by simpa using he
    refine ⟨z, err, by rw [h1]; rfl, ?_, fun h => absurd h he, fun _ => rfl⟩
    simp only [h2, Option.bind_some, e1, cond_true]
  · have hl : ((toY B).length : Int) = (B.length : Int) := by rw [qhb]
    rcases Nat.lt_or_ge n B.length with hlt | hge
    · have d1 : decide ((n : Int) < ((toY B).length : Int)) = true := decide_eq_true (by omega)
      refine ⟨z, 3, ?_, ?_, (fun h => by cases h), fun _ => rfl⟩
      · rw [h1, qhL]
        simp only [d1, cond_true]
        rfl
      · simp only [h2, Option.bind_some, bne_self_eq_false, cond_false, d1, cond_true]
        rfl
    · obtain rfl : n = B.length := by omega
      have d1 : decide ((B.length : Int) < ((toY B).length : Int)) = false := decide_eq_false (by omega)
      have o1 := o1 rfl
      subst hr
      have hp := hput x hw
      cases he : eX x with
      | none =>
        rw [he] at o1 hp
        have hb : bad' = true := o1
        refine ⟨z, 2, ?_, ?_, (fun h => by cases h), fun _ => rfl⟩
        · rw [h1, qhL]
          simp only [d1, cond_false, hp]
          rfl
        · simp only [h2, Option.bind_some, bne_self_eq_false, cond_false, d1, hb, cond_true]
          rfl
      | some e =>
        rw [he] at o1 hp
        have hs : sl B 0 B.length = toY B := by
          unfold sl
          rw [Nat.sub_zero, List.drop_zero, List.take_length]
        obtain ⟨hb, ho⟩ := o1
        rw [hs] at ho
        have hne := qtm (hne x e he)
        refine ⟨x, 0, ?_, ?_, fun _ => ⟨hw, by rw [hp, ho]; rfl⟩, fun h => absurd rfl h⟩
        · rw [h1, qhL]
          simp only [d1, cond_false, hp, Option.getD_some, Option.bind_some, hne]
          rfl
        · simp only [h2, Option.bind_some, bne_self_eq_false, cond_false, d1, hb]
end Go.Proofs.YtdoljfkjdfaakaaGreat
