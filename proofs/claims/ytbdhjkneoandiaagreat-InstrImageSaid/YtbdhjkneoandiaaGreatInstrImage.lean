/-
  CheckImage is that of the reference: the law returns true. No condition.
-/
import Derived.Test.YtbdhjkneoandiaaGreatLGA
import Derived.Test.YtbdhjkneoandiaaGreatLGB
import Derived.Test.YtbdhjkneoandiaaGreatLGC
import Derived.Test.YtbdhjkneoandiaaGreatLGD
import Derived.Test.YtbdhjkneoandiaaGreatLGE
import Derived.Test.YtbdhjkneoandiaaGreatLGF
import Derived.Test.YtbdhjkneoandiaaGreatLGG
import Derived.Test.YtbdhjkneoandiaaGreatLGH
import Derived.Test.YtbdhjkneoandiaaGreatLGI
import Derived.Test.YtbdhjkneoandiaaGreatLGJ
/- pasted -/
namespace Go.Proofs.YtbdhjkneoandiaaGreat
open Go.RowKit
theorem x_isName_eq (s : ByteArray) (h : True) : x_isName s = some (isName s) := if_pos h

theorem x_isNameR_eq (s : ByteArray) (h : s.size ≤ 9223372036854775807) : x_isNameR s = some (isName s) := if_pos h


end Go.Proofs.YtbdhjkneoandiaaGreat
namespace Go.Proofs.YtbdhjkneoandiaaGreat
open Go.RowKit
theorem permO_of {Q R : Type} {F : List Q → Option R} {l : List Q} {r : R} (h : ∀ l' : List Q, l'.Perm l → F l' = some r) : permO F l = some r := by
  have h0 := h l (.refl _)
  unfold permO
  rw [if_pos fun l' hp => (h l' hp).trans h0.symm]
  exact h0

end Go.Proofs.YtbdhjkneoandiaaGreat
namespace Go.Proofs.YtbdhjkneoandiaaGreat
open Go.RowKit
structure Okb (b : S_api_Block) : Prop where
  n : b.f1_Code.length ≤ 200
  r : 0 ≤ b.f0_Occ.f0_Rule ∧ b.f0_Occ.f0_Rule ≤ 39
  h : 0 ≤ b.f0_Occ.f1_Head ∧ b.f0_Occ.f1_Head ≤ 3
  a : ∀ x ∈ b.f1_Code, rI x = true
  f : ∃ s, chain b (s0 b) b.f1_Code = some s ∧ finOk b s = true
theorem cK_zero {b : S_api_Block} : cK b = 0 ↔ Okb b := by
  unfold cK
  constructor
  · intro h
    split at h
    · cases h
    · rename_i h1
      split at h
      · cases h
      · rename_i h2
        split at h
        · cases h
        · rename_i h3
          split at h
          · cases h
          · rename_i h4
            split at h
            · cases h
            · rename_i h5
              have h2 := inB_iff.1 (by simpa using h2)
              have h3 := inB_iff.1 (by simpa using h3)
              refine ⟨by omega, h2, h3, fun x hx => List.all_eq_true.1 (by simpa using h4) x hx, ?_⟩
              unfold formedF at h5
              cases hc : chain b (s0 b) b.f1_Code with
              | none => rw [hc] at h5; exact absurd rfl h5
              | some s => rw [hc] at h5; exact ⟨s, rfl, by simpa using h5⟩
  · intro h
    obtain ⟨s, h1, h2⟩ := h.f
    have hn := h.n
    have h3 : b.f1_Code.all rI = true := List.all_eq_true.2 h.a
    rw [if_neg (by omega), if_neg (by rw [inB_iff.2 h.r]; simp), if_neg (by rw [inB_iff.2 h.h]; simp), if_neg (by rw [h3]; simp), if_neg (by unfold formedF; rw [h1]; simp [h2])]

/-! ### InstrBound -/

end Go.Proofs.YtbdhjkneoandiaaGreat
namespace Go.Proofs.YtbdhjkneoandiaaGreat
set_option maxRecDepth 100000
open Go.RowKit

theorem ba_eqI (a b : ByteArray) : (a.toList == b.toList) = decide (a = b) := by
  by_cases h : a = b
  · subst h; simp
  · rw [decide_eq_false h]
    simp only [beq_eq_false_iff_ne]
    intro e
    rw [ByteArray.toList_eq, ByteArray.toList_eq] at e
    exact h (ByteArray.ext (Array.toList_inj.1 e))
/-- The first error of a list. -/
def firstE {α : Type} (f : α → Int) : List α → Int
  | [] => 0
  | x :: l => if f x ≠ 0 then f x else firstE f l

/-! ### accesses -/
def posB (ar : Int) : Int → List Int → Bool
  | _, [] => true
  | last, q :: l => !decide (q ≤ last) && (!decide (q ≥ ar) && posB ar q l)
noncomputable def dE (n : ByteArray) (ar : Int) : Int := if isName n = false then 7 else if ar < 0 then 9 else if 6 < ar then 9 else 0
noncomputable def aE (a : S_api_Access) : Int := if dE a.f0_Name a.f1_Arity ≠ 0 then dE a.f0_Name a.f1_Arity else if posB a.f1_Arity (-1) a.f2_Positions then 0 else 2
theorem declared_lf (n : ByteArray) (ar : Int) : lf_instr_declared n ar = some (dE n ar) := by
  rw [lf_instr_declared, x_isName_eq _ trivial, Option.bind_some, dE]
  cases isName n with
  | false => rfl
  | true =>
    rw [Bool.not_true, cond_false, if_neg (by simp)]
    by_cases h1 : ar < 0
    · rw [decide_eq_true h1, cond_true, if_pos h1]
    · rw [decide_eq_false h1, cond_false, if_neg h1]
      by_cases h2 : 6 < ar
      · rw [decide_eq_true (by omega), cond_true, if_pos h2]
      · rw [decide_eq_false (by omega), cond_false, if_neg h2]
theorem acc_L0 (k : Option Int) (a : S_api_Access) : ∀ (l : List Int) (last : Int), lf_instr_access_L0 k a l last = bif posB a.f1_Arity last l then k else some 2
  | [], last => by rw [lf_instr_access_L0]; rfl
  | q :: l, last => by
    rw [lf_instr_access_L0, acc_L0 k a l, posB]
    cases decide (q ≤ last) <;> cases decide (q ≥ a.f1_Arity) <;> rfl
theorem access_lf (a : S_api_Access) : lf_instr_access a = some (aE a) := by
  rw [lf_instr_access, declared_lf, Option.bind_some, acc_L0, aE]
  by_cases h : dE a.f0_Name a.f1_Arity = 0
  · rw [h]
    cases posB a.f1_Arity (-1) a.f2_Positions <;> rfl
  · rw [if_pos h, show (dE a.f0_Name a.f1_Arity != 0) = true by simpa using h, cond_true]
theorem refPos (k : Option Int) (a : S_api_Access) (hL : a.f2_Positions.length ≤ 1000) : ∀ (l : List Int) (i : Nat) (last : Int), (i = 0 → last = -1) → (0 < i → a.f2_Positions[i - 1]? = some last ∧ 0 ≤ last) → a.f2_Positions.drop i = l → lf_constraintref32_access_L1 k a l i = bif posB a.f1_Arity last l then k else some 2
  | [], i, last, _, _, _ => by rw [lf_constraintref32_access_L1]; rfl
  | q :: l, i, last, h0, h1, hl => by
    have hlt : i < a.f2_Positions.length := by
      have := congrArg List.length hl
      simp only [List.length_drop, List.length_cons] at this
      omega
    rw [List.drop_eq_getElem_cons hlt] at hl
    have e1 : a.f2_Positions[i] = q := (List.cons.inj hl).1
    have e2 := (List.cons.inj hl).2
    rw [lf_constraintref32_access_L1, posB]
    by_cases hq : q < 0
    · rw [decide_eq_true hq, cond_true]
      have : q ≤ last := by
        by_cases hi : i = 0
        · have := h0 hi; omega
        · have := (h1 (by omega)).2; omega
      rw [decide_eq_true this]; rfl
    · rw [decide_eq_false hq, cond_false, refPos k a hL l (i + 1) q (by omega) (fun _ => ⟨by rw [Nat.add_sub_cancel, List.getElem?_eq_getElem hlt, e1], by omega⟩) e2]
      by_cases hi : i = 0
      · subst hi
        rw [h0 rfl, show decide (((0 : Nat) : Int) > 0) = false from rfl, decide_eq_false (show ¬ q ≤ -1 by omega)]
        cases decide (q ≥ a.f1_Arity) <;> rfl
      · obtain ⟨h2, h3⟩ := h1 (by omega)
        rw [decide_eq_true (show ((i : Int) > 0) by omega), cond_true, show wr ((i : Int) - 1) = ((i - 1 : Nat) : Int) by rw [wr_eq (by omega)]; omega, getI_nat, h2, Option.bind_some]
        cases decide (q ≥ a.f1_Arity) <;> cases decide (q ≤ last) <;> rfl
theorem refAccess_L0 : ∀ l : List S_api_Access, (∀ a ∈ l, a.f2_Positions.length ≤ 20 ∧ a.f0_Name.size ≤ 200) → lf_constraintref32_access_L0 (some 0) l = some (firstE aE l)
  | [], _ => by rw [lf_constraintref32_access_L0]; rfl
  | a :: l, h => by
    have ha := h a (List.mem_cons_self ..)
    rw [lf_constraintref32_access_L0, x_isNameR_eq _ (by omega), Option.bind_some, refPos _ a (by omega) a.f2_Positions 0 (-1) (fun _ => rfl) (fun h => absurd h (by omega)) rfl, refAccess_L0 l fun x hx => h x (List.mem_cons_of_mem _ hx), firstE, aE, dE]
    cases isName a.f0_Name with
    | false => rfl
    | true =>
      rw [Bool.not_true, cond_false]
      by_cases h1 : a.f1_Arity < 0
      · rw [decide_eq_true h1, cond_true]; simp [h1]
      · rw [decide_eq_false h1, cond_false]
        by_cases h2 : 6 < a.f1_Arity
        · rw [decide_eq_true (by omega), cond_true]; simp [h1, h2]
        · rw [decide_eq_false (by omega), cond_false]
          cases posB a.f1_Arity (-1) a.f2_Positions <;> simp [h1, h2]
theorem accs_L1 (k : Option Int) : ∀ l : List S_api_Access, lf_instr_CheckImage_L1 k l = if firstE aE l ≠ 0 then some (firstE aE l) else k
  | [] => by rw [lf_instr_CheckImage_L1]; rfl
  | a :: l => by
    rw [lf_instr_CheckImage_L1, access_lf, Option.bind_some, accs_L1 k l, firstE]
    by_cases h : aE a = 0
    · rw [h]; simp
    · rw [show (aE a != 0) = true by simpa using h, cond_true, if_pos h, if_pos h]

/-! ### units -/
def unitIn (l : List S_api_Unit) (n : ByteArray) (a : Int) : Bool := l.any fun u => u.f0_Name.toList == n.toList && u.f1_Arity == a
theorem unit_lf (n : ByteArray) (a : Int) : ∀ l : List S_api_Unit, lf_constraintref32_Unit l n a = some (unitIn l n a)
  | [] => by rw [lf_constraintref32_Unit, lf_constraintref32_Unit_L0]; rfl
  | u :: l => by
    have ih := unit_lf n a l
    rw [lf_constraintref32_Unit] at ih ⊢
    rw [lf_constraintref32_Unit_L0, ih]
    simp only [unitIn, List.any_cons]
    cases u.f0_Name.toList == n.toList <;> cases u.f1_Arity == a <;> rfl
noncomputable def uE (pre : List S_api_Unit) (u : S_api_Unit) : Int := if dE u.f0_Name u.f1_Arity ≠ 0 then dE u.f0_Name u.f1_Arity else if unitIn pre u.f0_Name u.f1_Arity = true then 8 else if u.f4_Late < 0 then 5 else if (u.f2_Blocks.length : Int) < u.f4_Late then 5 else 0
noncomputable def unE : List S_api_Unit → List S_api_Unit → Int
  | _, [] => 0
  | pre, u :: l => if uE pre u ≠ 0 then uE pre u else unE (pre ++ [u]) l
/-- The map of the units that have come up. -/
structure Mu (mm : List (S_api_Decl × Bool)) (pre : List S_api_Unit) : Prop where
  g : ∀ n a, (mget mm (⟨n, a⟩ : S_api_Decl)).getD false = unitIn pre n a
  l : mm.length ≤ pre.length
theorem Mu.put {mm : List (S_api_Decl × Bool)} {pre : List S_api_Unit} (h : Mu mm pre) (u : S_api_Unit) : Mu (mput mm ⟨u.f0_Name, u.f1_Arity⟩ true) (pre ++ [u]) := by
  refine ⟨fun n a => ?_, ?_⟩
  · rw [mget_mput, unitIn, List.any_append, ← unitIn, ← h.g n a]
    simp only [List.any_cons, List.any_nil, Bool.or_false, ba_eqI]
    by_cases e : (⟨u.f0_Name, u.f1_Arity⟩ : S_api_Decl) = ⟨n, a⟩
    · rw [if_pos e]
      injection e with e1 e2
      subst e1 e2
      simp
    · rw [if_neg e]
      have : (decide (u.f0_Name = n) && u.f1_Arity == a) = false := by
        cases h1 : (decide (u.f0_Name = n) && u.f1_Arity == a) with
        | false => rfl
        | true =>
          simp only [Bool.and_eq_true, decide_eq_true_eq, beq_iff_eq] at h1
          exact absurd (by rw [h1.1, h1.2]) e
      rw [this, Bool.or_false]
  · have := mput_len mm (⟨u.f0_Name, u.f1_Arity⟩ : S_api_Decl) true
    have := h.l
    simp only [List.length_append, List.length_singleton]
    omega
theorem unit_s1 (m : S_api_Image) (u : S_api_Unit) {mm : List (S_api_Decl × Bool)} {pre : List S_api_Unit} (h : Mu mm pre) (hl : pre.length ≤ 1000) : ∃ mm', lf_instr_checker_unit_s1 m u mm = some (uE pre u, mm') ∧ (uE pre u = 0 → Mu mm' (pre ++ [u])) := by
  have hp := h.put u
  have hlen := h.l
  rw [lf_instr_checker_unit_s1, declared_lf, Option.bind_some, h.g, uE]
  by_cases h1 : dE u.f0_Name u.f1_Arity = 0
  · rw [h1, show ((0 : Int) != 0) = false from rfl, cond_false, if_neg (by simp)]
    cases unitIn pre u.f0_Name u.f1_Arity with
    | true => exact ⟨mm, rfl, fun h => by cases h⟩
    | false =>
      rw [cond_false, if_neg (by simp)]
      by_cases h2 : u.f4_Late < 0
      · rw [decide_eq_true h2, cond_true, if_pos h2]
        exact ⟨mm, rfl, fun h => by cases h⟩
      · rw [decide_eq_false h2, cond_false, if_neg h2]
        by_cases h3 : (u.f2_Blocks.length : Int) < u.f4_Late
        · rw [decide_eq_true (by omega), cond_true, if_pos h3]
          exact ⟨mm, rfl, fun h => by cases h⟩
        · rw [decide_eq_false (by omega), cond_false, if_neg h3, show mputO mm (⟨u.f0_Name, u.f1_Arity⟩ : S_api_Decl) true = some (mput mm ⟨u.f0_Name, u.f1_Arity⟩ true) from if_pos (by omega)]
          exact ⟨_, rfl, fun _ => hp⟩
  · rw [show (dE u.f0_Name u.f1_Arity != 0) = true by simpa using h1, cond_true, if_pos h1]
    exact ⟨mm, rfl, fun h => absurd h h1⟩
theorem units_L2 (k : List (S_api_Decl × Bool) → Option Int) (m : S_api_Image) (r : Int) : ∀ (l pre : List S_api_Unit) (mm : List (S_api_Decl × Bool)), Mu mm pre → pre.length + l.length ≤ 1000 → (∀ mm', Mu mm' (pre ++ l) → k mm' = some r) → lf_instr_CheckImage_L2 k m l mm = some (if unE pre l ≠ 0 then unE pre l else r)
  | [], pre, mm, h, _, hk => by
    rw [lf_instr_CheckImage_L2, unE, hk mm (by rw [List.append_nil]; exact h)]; rfl
  | u :: l, pre, mm, h, hl, hk => by
    simp only [List.length_cons] at hl
    obtain ⟨mm', e1, e2⟩ := unit_s1 m u h (by omega)
    rw [lf_instr_CheckImage_L2, e1, Option.bind_some, unE]
    by_cases h1 : uE pre u = 0
    · simp only [h1]
      rw [show ((0 : Int) != 0) = false from rfl, cond_false, show (if (0 : Int) ≠ 0 then (0 : Int) else unE (pre ++ [u]) l) = unE (pre ++ [u]) l by simp]
      exact units_L2 k m r l (pre ++ [u]) mm' (e2 h1) (by simp; omega) fun mm2 h2 => hk mm2 (by rw [List.append_assoc] at h2; exact h2)
    · simp only [show (uE pre u != 0) = true by simpa using h1, cond_true]
      rw [if_pos h1, if_pos h1]
theorem refUnits_L0 (la : List S_api_Unit) : ∀ (l : List S_api_Unit) (i : Nat), la.drop i = l → la.length ≤ 1000 → (∀ u ∈ l, u.f0_Name.size ≤ 200) → lf_constraintref32_units_L0 (some 0) la l i = some (unE (la.take i) l)
  | [], i, _, _, _ => by rw [lf_constraintref32_units_L0, unE]
  | u :: l, i, hl, hn, hs => by
    have hlt : i < la.length := by
      have := congrArg List.length hl
      simp only [List.length_drop, List.length_cons] at this
      omega
    have hu := hs u (List.mem_cons_self ..)
    rw [List.drop_eq_getElem_cons hlt] at hl
    have e1 : la[i] = u := (List.cons.inj hl).1
    have e2 := (List.cons.inj hl).2
    have e3 : la.take (i + 1) = la.take i ++ [u] := by rw [List.take_add_one, List.getElem?_eq_getElem hlt, e1]; rfl
    have hsub : subO la 0 (i : Int) = some (la.take i) := by
      unfold subO
      rw [if_pos (by omega)]
      simp
    rw [lf_constraintref32_units_L0, x_isNameR_eq _ (by omega), Option.bind_some, hsub, Option.bind_some, unit_lf, Option.bind_some, refUnits_L0 la l (i + 1) e2 hn (fun x hx => hs x (List.mem_cons_of_mem _ hx)), e3, unE, uE, dE]
    cases isName u.f0_Name with
    | false => rfl
    | true =>
      rw [Bool.not_true, cond_false]
      by_cases h1 : u.f1_Arity < 0
      · rw [decide_eq_true h1, cond_true]; simp [h1]
      · rw [decide_eq_false h1, cond_false]
        by_cases h2 : 6 < u.f1_Arity
        · rw [decide_eq_true (by omega), cond_true]; simp [h1, h2]
        · rw [decide_eq_false (by omega), cond_false]
          cases unitIn (la.take i) u.f0_Name u.f1_Arity with
          | true => simp [h1, h2]
          | false =>
            rw [cond_false]
            by_cases h3 : u.f4_Late < 0
            · rw [decide_eq_true h3, cond_true]; simp [h1, h2, h3]
            · rw [decide_eq_false h3, cond_false]
              by_cases h4 : (u.f2_Blocks.length : Int) < u.f4_Late
              · rw [decide_eq_true (by omega), cond_true]; simp [h1, h2, h3, h4]
              · rw [decide_eq_false (by omega), cond_false]; simp [h1, h2, h3, h4]

/-! ### blocks -/
/-- Two registers are told apart. -/
def ap (l : List S_api_Instr) (x y : Int) : Bool := l.any fun q => q.f0_Op == 4 && (q.f1_A == x && q.f2_B == y || q.f1_A == y && q.f2_B == x)
theorem ap_comm (l : List S_api_Instr) (x y : Int) : ap l x y = ap l y x := by
  unfold ap
  congr 1
  funext q
  rw [Bool.or_comm]
theorem apart_lf (x y : Int) : ∀ l : List S_api_Instr, lf_constraintref32_apart l x y = some (ap l x y)
  | [] => by rw [lf_constraintref32_apart, lf_constraintref32_apart_L0]; rfl
  | q :: l => by
    have ih := apart_lf x y l
    rw [lf_constraintref32_apart] at ih ⊢
    rw [lf_constraintref32_apart_L0, ih]
    simp only [ap, List.any_cons]
    cases q.f0_Op == (4 : Int) <;> cases q.f1_A == x <;> cases q.f2_B == y <;> cases q.f1_A == y <;> cases q.f2_B == x <;> rfl
abbrev Hd := S_constraintref32_held
/-- The code of a block, instruction by instruction: the first error, or what the registers hold. -/
def blkL (m : S_api_Image) : List S_api_Instr → List Hd → Int ⊕ List Hd
  | [], h => .inr h
  | x :: l, h =>
    if x.f0_Op = 3 then
      if (m.f1_Access.length : Int) ≤ x.f2_B then .inl 5
      else match m.f1_Access[x.f2_B.toNat]? with
        | some a => if x.f4_Terms.length ≠ a.f2_Positions.length then .inl 9 else blkL m l (h ++ [⟨x.f1_A, a.f0_Name, a.f1_Arity⟩])
        | none => .inl 0
    else if x.f0_Op = 1 then if (h.any fun q => q.f0_register == x.f1_A && decide (x.f2_B ≥ q.f2_arity)) = true then .inl 9 else blkL m l h
    else if x.f0_Op = 9 ∧ x.f3_Goal.op = 0 then if unitIn m.f0_Units x.f3_Goal.n (x.f3_Goal.ts.length : Int) = false then .inl 7 else blkL m l h
    else blkL m l h
theorem ref_L3 (k : Option Int) (x : S_api_Instr) : ∀ h : List Hd, lf_constraintref32_block_L3 k x h = bif (h.any fun q => q.f0_register == x.f1_A && decide (x.f2_B ≥ q.f2_arity)) then some 9 else k
  | [] => by rw [lf_constraintref32_block_L3]; rfl
  | q :: h => by
    rw [lf_constraintref32_block_L3, ref_L3 k x h, List.any_cons]
    cases q.f0_register == x.f1_A <;> cases decide (x.f2_B ≥ q.f2_arity) <;> rfl
theorem getI_to {α : Type} (l : List α) (n : Int) (h : 0 ≤ n) : getI l n = l[n.toNat]? := by
  have : n = ((n.toNat : Nat) : Int) := by omega
  rw [this, getI_nat, Int.toNat_natCast]
theorem refBlk_L0 (k : List Hd → Option Int) (m : S_api_Image) : ∀ (l : List S_api_Instr) (h : List Hd), (∀ x ∈ l, x.f0_Op = 3 → 0 ≤ x.f2_B) → h.length + l.length ≤ 1000 → lf_constraintref32_block_L0 k m l h = (match blkL m l h with
    | .inl e => some e
    | .inr h' => k h')
  | [], h, _, _ => by rw [lf_constraintref32_block_L0, blkL]
  | x :: l, h, hb, hl => by
    simp only [List.length_cons] at hl
    have hb' : ∀ y ∈ l, y.f0_Op = 3 → 0 ≤ y.f2_B := fun y hy => hb y (List.mem_cons_of_mem _ hy)
    rw [lf_constraintref32_block_L0, blkL, unit_lf, Option.bind_some, ref_L3, refBlk_L0 k m l h hb' (by omega)]
    by_cases h3 : x.f0_Op = 3
    · have h0 := hb x (List.mem_cons_self ..) h3
      rw [show (x.f0_Op == (3 : Int)) = true by simpa using h3, cond_true, if_pos h3]
      by_cases hB : (m.f1_Access.length : Int) ≤ x.f2_B
      · rw [decide_eq_true (by omega), cond_true, if_pos hB]
      · rw [decide_eq_false (by omega), cond_false, if_neg hB, getI_to _ _ h0]
        have hlt : x.f2_B.toNat < m.f1_Access.length := by omega
        rw [List.getElem?_eq_getElem hlt, Option.bind_some]
        by_cases ht : x.f4_Terms.length = m.f1_Access[x.f2_B.toNat].f2_Positions.length
        · have : ((x.f4_Terms.length : Int) != (m.f1_Access[x.f2_B.toNat].f2_Positions.length : Int)) = false := by simp [ht]
          rw [this, cond_false]
          simp only [ht, ne_eq, not_true_eq_false, if_false]
          rw [appO_ok 32 h _ (by simp; omega) (by omega), Option.bind_some, refBlk_L0 k m l _ hb' (by simp; omega)]
        · have : ((x.f4_Terms.length : Int) != (m.f1_Access[x.f2_B.toNat].f2_Positions.length : Int)) = true := by simp; omega
          simp only [this, cond_true]
          rw [if_pos ht]
    · rw [beq_f h3, cond_false, if_neg h3]
      by_cases h1 : x.f0_Op = 1
      · rw [show (x.f0_Op == (1 : Int)) = true by simpa using h1, cond_true, if_pos h1]
        cases h.any fun q => q.f0_register == x.f1_A && decide (x.f2_B ≥ q.f2_arity) <;> rfl
      · rw [beq_f h1, cond_false, if_neg h1]
        by_cases h9 : x.f0_Op = 9
        · rw [show (x.f0_Op == (9 : Int)) = true by simpa using h9, cond_true]
          by_cases hg : x.f3_Goal.op = 0
          · rw [show (x.f3_Goal.op == (0 : Int)) = true by simpa using hg, cond_true, if_pos ⟨h9, hg⟩]
            cases unitIn m.f0_Units x.f3_Goal.n (x.f3_Goal.ts.length : Int) <;> rfl
          · rw [beq_f hg, cond_false, if_neg fun h => hg h.2]
        · rw [beq_f h9, cond_false, if_neg fun h => h9 h.1]
/-- The map of what the registers hold. -/
def mH (h : List Hd) : List (Int × S_api_Decl) := h.map fun q => (q.f0_register, ⟨q.f1_name, q.f2_arity⟩)
theorem mput_new {α β : Type} [DecidableEq α] (x : α) (d : β) : ∀ l : List (α × β), x ∉ l.map (·.1) → mput l x d = l ++ [(x, d)]
  | [], _ => rfl
  | q :: l, h => by
    simp only [List.map_cons, List.mem_cons, not_or] at h
    rw [mput, if_neg (Ne.symm h.1), mput_new x d l h.2, List.cons_append]
theorem mH_get (x : Int) (z : S_api_Decl) (B : Int) : ∀ h : List Hd, x ∈ h.map (·.f0_register) → (h.map (·.f0_register)).Nodup → decide (B ≥ ((mget (mH h) x).getD z).f1_Arity) = h.any fun q => q.f0_register == x && decide (B ≥ q.f2_arity)
  | [], h, _ => by cases h
  | q :: h, hm, hn => by
    simp only [List.map_cons, List.nodup_cons] at hn
    simp only [mH, List.map_cons, mget, List.any_cons]
    by_cases hq : q.f0_register = x
    · rw [if_pos hq, show (q.f0_register == x) = true by simpa using hq, Bool.true_and]
      have : (h.any fun q => q.f0_register == x && decide (B ≥ q.f2_arity)) = false := by
        rw [List.any_eq_false]
        intro r hr
        have : r.f0_register ≠ x := fun e => hn.1 (List.mem_map.2 ⟨r, hr, by rw [e, hq]⟩)
        rw [beq_f this]
        simp
      rw [this, Bool.or_false]
      rfl
    · rw [if_neg hq, beq_f hq, Bool.false_and, Bool.false_or]
      refine mH_get x z B h ?_ hn.2
      rcases List.mem_cons.1 hm with e | e
      · exact absurd e.symm hq
      · exact e
/-- The map of the pairs that are told apart. -/
structure Mp (mm : List ((Int × Int) × Bool)) (pre : List S_api_Instr) : Prop where
  g : ∀ x y, (mget mm (x, y)).getD false = ap pre x y
  l : mm.length ≤ 2 * pre.length
theorem Mp.skip {mm : List ((Int × Int) × Bool)} {pre : List S_api_Instr} (h : Mp mm pre) {q : S_api_Instr} (hq : q.f0_Op ≠ 4) : Mp mm (pre ++ [q]) := by
  refine ⟨fun x y => ?_, ?_⟩
  · rw [h.g, ap, ap, List.any_append]
    simp [beq_f hq]
  · have := h.l
    simp only [List.length_append, List.length_singleton]
    omega
theorem Mp.put {mm : List ((Int × Int) × Bool)} {pre : List S_api_Instr} (h : Mp mm pre) {q : S_api_Instr} (hq : q.f0_Op = 4) : Mp (mput (mput mm (q.f1_A, q.f2_B) true) (q.f2_B, q.f1_A) true) (pre ++ [q]) := by
  refine ⟨fun x y => ?_, ?_⟩
  · rw [mget_mput, mget_mput, ap, List.any_append, ← ap, ← h.g]
    simp only [List.any_cons, List.any_nil, Bool.or_false, hq, beq_self_eq_true, Bool.true_and]
    by_cases e1 : q.f1_A = x
    · by_cases e2 : q.f2_B = y
      · subst e1 e2; simp
      · by_cases e3 : q.f1_A = y
        · by_cases e4 : q.f2_B = x
          · simp [← e3] at e2; subst e1; simp [e4, ← e3]
          · rw [if_neg (by simp [e4]), if_neg (by simp [e2])]; simp [e2, e4]
        · rw [if_neg (by simp [e3]), if_neg (by simp [e2])]; simp [e2, e3]
    · by_cases e3 : q.f1_A = y
      · by_cases e4 : q.f2_B = x
        · subst e3 e4; simp
        · rw [if_neg (by simp [e4]), if_neg (by simp [e1])]; simp [e1, e4]
      · rw [if_neg (by simp [e3]), if_neg (by simp [e1])]; simp [e1, e3]
  · have h1 := mput_len mm (q.f1_A, q.f2_B) true
    have h2 := mput_len (mput mm (q.f1_A, q.f2_B) true) (q.f2_B, q.f1_A) true
    have := h.l
    simp only [List.length_append, List.length_singleton]
    omega
theorem blk_L0 (k : List (Int × S_api_Decl) → List ((Int × Int) × Bool) → Option (Int × List (S_api_Decl × Bool))) (m : S_api_Image) (s0 : List (S_api_Decl × Bool)) (hu : Mu s0 m.f0_Units) (b : S_api_Block) (r : List Hd → Option (Int × List (S_api_Decl × Bool))) : ∀ (l pre : List S_api_Instr) (h : List Hd) (fr : List Int) (mm : List ((Int × Int) × Bool)), (∀ x ∈ l, x.f0_Op = 3 → 0 ≤ x.f2_B) → regL b (h.map (·.f0_register)) fr l = true → (h.map (·.f0_register)).Nodup → Mp mm pre → pre.length + l.length ≤ 1000 → h.length ≤ pre.length + 1 →
    (∀ h' mm', Mp mm' (pre ++ l) → (h'.map (·.f0_register)).Nodup → blkL m l h = .inr h' → k (mH h') mm' = r h') → lf_instr_checker_block_s1_L0 k m s0 l (mH h) mm = (match blkL m l h with
    | .inl e => some (e, s0)
    | .inr h' => r h')
  | [], pre, h, fr, mm, _, _, hn, hp, _, _, hk => by
    rw [lf_instr_checker_block_s1_L0, blkL]
    exact hk h mm (by rw [List.append_nil]; exact hp) hn (by rw [blkL])
  | x :: l, pre, h, fr, mm, hb, hr, hn, hp, hl, hh, hk => by
    simp only [List.length_cons] at hl
    have hb' : ∀ y ∈ l, y.f0_Op = 3 → 0 ≤ y.f2_B := fun y hy => hb y (List.mem_cons_of_mem _ hy)
    rw [regL, Bool.and_eq_true] at hr
    obtain ⟨hr1, hr2⟩ := hr
    have hlen := hp.l
    have ih := fun (h4 : x.f0_Op ≠ 4) (h3 : x.f0_Op ≠ 3) (hq : blkL m (x :: l) h = blkL m l h) => blk_L0 k m s0 hu b r l (pre ++ [x]) h (frN fr x) mm hb' (by rw [bdN, if_neg h3] at hr2; exact hr2) hn (hp.skip h4) (by simp; omega) (by simp; omega) fun h' mm' a1 a2 a3 => hk h' mm' (by rw [List.append_assoc] at a1; exact a1) a2 (by rw [hq]; exact a3)
    rw [lf_instr_checker_block_s1_L0, hu.g]
    by_cases h3 : x.f0_Op = 3
    · have h0 := hb x (List.mem_cons_self ..) h3
      have hk' := hk
      rw [blkL, if_pos h3] at hk'
      rw [show (x.f0_Op == (3 : Int)) = true by simpa using h3, cond_true, blkL, if_pos h3]
      by_cases hB : (m.f1_Access.length : Int) ≤ x.f2_B
      · rw [decide_eq_true (by omega), cond_true, if_pos hB]
      · rw [decide_eq_false (by omega), cond_false, if_neg hB, getI_to _ _ h0]
        rw [if_neg hB] at hk'
        have hlt : x.f2_B.toNat < m.f1_Access.length := by omega
        rw [List.getElem?_eq_getElem hlt] at hk'
        rw [List.getElem?_eq_getElem hlt, Option.bind_some]
        by_cases ht : x.f4_Terms.length = m.f1_Access[x.f2_B.toNat].f2_Positions.length
        · have e : ((x.f4_Terms.length : Int) != (m.f1_Access[x.f2_B.toNat].f2_Positions.length : Int)) = false := by simp [ht]
          simp only [ht, ne_eq, not_true_eq_false, if_false] at hk'
          rw [e, cond_false]
          simp only [ht, ne_eq, not_true_eq_false, if_false]
          have hni : x.f1_A ∉ h.map (·.f0_register) := by
            unfold regOk at hr1
            simpa [h3] using hr1
          have hm : mput (mH h) x.f1_A (⟨m.f1_Access[x.f2_B.toNat].f0_Name, m.f1_Access[x.f2_B.toNat].f1_Arity⟩ : S_api_Decl) = mH (h ++ [⟨x.f1_A, m.f1_Access[x.f2_B.toNat].f0_Name, m.f1_Access[x.f2_B.toNat].f1_Arity⟩]) := by
            rw [mput_new _ _ _ (by simpa [mH, List.map_map, Function.comp_def] using hni)]
            simp [mH]
          rw [show mputO (mH h) x.f1_A (⟨m.f1_Access[x.f2_B.toNat].f0_Name, m.f1_Access[x.f2_B.toNat].f1_Arity⟩ : S_api_Decl) = some _ from if_pos (by simp [mH]; omega), Option.bind_some, hm]
          refine blk_L0 k m s0 hu b r l (pre ++ [x]) _ (frN fr x) mm hb' ?_ ?_ (hp.skip (by omega)) (by simp; omega) (by simp; omega) fun h' mm' a1 a2 a3 => hk' h' mm' (by rw [List.append_assoc] at a1; exact a1) a2 a3
          · rw [bdN, if_pos h3] at hr2
            simpa using hr2
          · rw [List.map_append]
            exact List.nodup_append.2 ⟨hn, by simp, fun a ha c hc => by
              simp only [List.map_cons, List.map_nil, List.mem_singleton] at hc
              subst hc
              exact fun e => hni (e ▸ ha)⟩
        · have e : ((x.f4_Terms.length : Int) != (m.f1_Access[x.f2_B.toNat].f2_Positions.length : Int)) = true := by simp; omega
          simp only [e, cond_true]
          rw [if_pos ht]
    · rw [beq_f h3, cond_false]
      by_cases h1 : x.f0_Op = 1
      · have hin : x.f1_A ∈ h.map (·.f0_register) := by
          unfold regOk at hr1
          rw [if_pos h1] at hr1
          exact of_decide_eq_true hr1
        have hq : blkL m (x :: l) h = if (h.any fun q => q.f0_register == x.f1_A && decide (x.f2_B ≥ q.f2_arity)) = true then .inl 9 else blkL m l h := by
          rw [blkL, if_neg h3, if_pos h1]
        rw [show (x.f0_Op == (1 : Int)) = true by simpa using h1, cond_true, mH_get _ _ _ h hin hn, hq]
        cases hc : h.any fun q => q.f0_register == x.f1_A && decide (x.f2_B ≥ q.f2_arity) with
        | true => rfl
        | false =>
          rw [cond_false, if_neg (by simp)]
          exact ih (by omega) h3 (by rw [hq, hc, if_neg (by simp)])
      · rw [beq_f h1, cond_false]
        by_cases h4 : x.f0_Op = 4
        · have hq : blkL m (x :: l) h = blkL m l h := by
            rw [blkL, if_neg h3, if_neg h1, if_neg fun h => absurd h.1 (by omega)]
          rw [show (x.f0_Op == (4 : Int)) = true by simpa using h4, cond_true, show mputO mm (x.f1_A, x.f2_B) true = some _ from if_pos (by omega), Option.bind_some,
            show mputO (mput mm (x.f1_A, x.f2_B) true) (x.f2_B, x.f1_A) true = some _ from if_pos (by have := mput_len mm (x.f1_A, x.f2_B) true; omega), Option.bind_some, hq]
          exact blk_L0 k m s0 hu b r l (pre ++ [x]) h (frN fr x) _ hb' (by rw [bdN, if_neg h3] at hr2; exact hr2) hn (hp.put h4) (by simp; omega) (by simp; omega) fun h' mm' a1 a2 a3 => hk h' mm' (by rw [List.append_assoc] at a1; exact a1) a2 (by rw [hq]; exact a3)
        · rw [beq_f h4, cond_false]
          by_cases h9 : x.f0_Op = 9
          · rw [show (x.f0_Op == (9 : Int)) = true by simpa using h9, cond_true]
            by_cases hg : x.f3_Goal.op = 0
            · have hq : blkL m (x :: l) h = if unitIn m.f0_Units x.f3_Goal.n (x.f3_Goal.ts.length : Int) = false then .inl 7 else blkL m l h := by
                rw [blkL, if_neg h3, if_neg h1, if_pos ⟨h9, hg⟩]
              rw [show (x.f3_Goal.op == (0 : Int)) = true by simpa using hg, cond_true, hq]
              cases hc : unitIn m.f0_Units x.f3_Goal.n (x.f3_Goal.ts.length : Int) with
              | false => rfl
              | true =>
                rw [Bool.not_true, cond_false, if_neg (by simp)]
                exact ih h4 h3 (by rw [hq, hc, if_neg (by simp)])
            · have hq : blkL m (x :: l) h = blkL m l h := by
                rw [blkL, if_neg h3, if_neg h1, if_neg fun h => hg h.2]
              rw [beq_f hg, cond_false, hq]
              exact ih h4 h3 hq
          · have hq : blkL m (x :: l) h = blkL m l h := by
              rw [blkL, if_neg h3, if_neg h1, if_neg fun h => h9 h.1]
            rw [beq_f h9, cond_false, hq]
            exact ih h4 h3 hq
end Go.Proofs.YtbdhjkneoandiaaGreat
namespace Go.Proofs.YtbdhjkneoandiaaGreat
set_option maxRecDepth 100000
open Go.RowKit

/-- Two registers hold the same and are not told apart. -/
def bad (code : List S_api_Instr) (q h : Hd) : Bool := (q.f1_name.toList == h.f1_name.toList && q.f2_arity == h.f2_arity) && !ap code q.f0_register h.f0_register
theorem bad_comm (code : List S_api_Instr) (q h : Hd) : bad code q h = bad code h q := by
  unfold bad
  rw [ap_comm, ba_eqI, ba_eqI]
  congr 1
  congr 1
  · exact decide_eq_decide.2 ⟨Eq.symm, Eq.symm⟩
  · by_cases e : q.f2_arity = h.f2_arity
    · rw [e]
    · rw [beq_f e, beq_f (Ne.symm e)]
def pz (code : List S_api_Instr) : List Hd → List Hd → Bool
  | _, [] => false
  | pre, q :: l => pre.any (bad code q) || pz code (pre ++ [q]) l
theorem ref_L2 (k : Option Int) (b : S_api_Block) (l : List Hd) (q : Hd) : ∀ (n i : Nat), i + n ≤ l.length → lf_constraintref32_block_L2 k b l q n (i : Int) = bif ((l.drop i).take n).any (bad b.f1_Code q) then some 18 else k
  | 0, i, _ => by rw [lf_constraintref32_block_L2]; simp
  | n + 1, i, h => by
    have hlt : i < l.length := by omega
    have ih := ref_L2 k b l q n (i + 1) (by omega)
    have e : (i : Int) + 1 = ((i + 1 : Nat) : Int) := by omega
    rw [lf_constraintref32_block_L2, getI_nat, List.getElem?_eq_getElem hlt, Option.bind_some, apart_lf, Option.bind_some, e, ih, List.drop_eq_getElem_cons hlt, List.take_succ_cons, List.any_cons]
    unfold bad
    cases q.f1_name.toList == l[i].f1_name.toList <;> cases q.f2_arity == l[i].f2_arity <;> cases ap b.f1_Code q.f0_register l[i].f0_register <;> rfl
theorem ref_L1 (k : Option Int) (b : S_api_Block) (la : List Hd) : ∀ (l : List Hd) (i : Nat), la.drop i = l → lf_constraintref32_block_L1 k b la l i = bif pz b.f1_Code (la.take i) l then some 18 else k
  | [], i, _ => by rw [lf_constraintref32_block_L1]; rfl
  | q :: l, i, hl => by
    have hlt : i < la.length := by
      have := congrArg List.length hl
      simp only [List.length_drop, List.length_cons] at this
      omega
    rw [List.drop_eq_getElem_cons hlt] at hl
    have e1 : la[i] = q := (List.cons.inj hl).1
    have e2 := (List.cons.inj hl).2
    have e3 : la.take (i + 1) = la.take i ++ [q] := by rw [List.take_add_one, List.getElem?_eq_getElem hlt, e1]; rfl
    have h2 := ref_L2 (lf_constraintref32_block_L1 k b la l (i + 1)) b la q i 0 (by omega)
    rw [lf_constraintref32_block_L1, show ((i : Int) - 0).toNat = i by omega]
    refine h2.trans ?_
    rw [ref_L1 k b la l (i + 1) e2, e3, pz, List.drop_zero]
    cases (la.take i).any (bad b.f1_Code q) <;> rfl
/-- Some pair, the smaller register ahead. -/
def anyBad (code : List S_api_Instr) (l m : List Hd) : Bool := l.any fun q => m.any fun h => decide (q.f0_register < h.f0_register) && bad code q h
theorem pz_iff (code : List S_api_Instr) : ∀ (l pre : List Hd), ((pre ++ l).map (·.f0_register)).Nodup → (pz code pre l = true ↔ ∃ q ∈ l, ∃ h ∈ pre ++ l, q.f0_register ≠ h.f0_register ∧ bad code q h = true)
  | [], pre, _ => by simp [pz]
  | q :: l, pre, hn => by
    have e : pre ++ q :: l = (pre ++ [q]) ++ l := by simp
    have ih := pz_iff code l (pre ++ [q]) (by rw [← e]; exact hn)
    rw [pz, Bool.or_eq_true, ih, List.any_eq_true]
    have hne : ∀ h ∈ pre, q.f0_register ≠ h.f0_register := fun h hh he => by
      rw [List.map_append] at hn
      exact (List.nodup_append.1 hn).2.2 h.f0_register (List.mem_map_of_mem hh) q.f0_register (by simp) he.symm
    constructor
    · rintro (⟨h, h1, h2⟩ | ⟨r, h1, h, h2, h3⟩)
      · exact ⟨q, List.mem_cons_self .., h, List.mem_append_left _ h1, hne h h1, h2⟩
      · exact ⟨r, List.mem_cons_of_mem _ h1, h, by rw [e]; exact h2, h3⟩
    · rintro ⟨r, h1, h, h2, h3, h4⟩
      rcases List.mem_cons.1 h1 with rfl | h1
      · rcases List.mem_append.1 h2 with h2 | h2
        · exact .inl ⟨h, h2, h4⟩
        · rcases List.mem_cons.1 h2 with rfl | h2
          · exact absurd rfl h3
          · exact .inr ⟨h, h2, r, by simp, Ne.symm h3, by rw [bad_comm]; exact h4⟩
      · exact .inr ⟨r, h1, h, by rw [← e]; exact h2, h3, h4⟩
theorem anyBad_pz (code : List S_api_Instr) (l : List Hd) (hn : (l.map (·.f0_register)).Nodup) : anyBad code l l = pz code [] l := by
  have h := pz_iff code l [] hn
  rw [List.nil_append] at h
  have h2 : anyBad code l l = true ↔ ∃ q ∈ l, ∃ h ∈ l, q.f0_register ≠ h.f0_register ∧ bad code q h = true := by
    unfold anyBad
    simp only [List.any_eq_true, Bool.and_eq_true, decide_eq_true_eq]
    constructor
    · rintro ⟨q, hq, h, hh, h1, h2⟩
      exact ⟨q, hq, h, hh, by omega, h2⟩
    · rintro ⟨q, hq, h, hh, h1, h2⟩
      by_cases hlt : q.f0_register < h.f0_register
      · exact ⟨q, hq, h, hh, hlt, h2⟩
      · exact ⟨h, hh, q, hq, by omega, by rw [bad_comm]; exact h2⟩
  rw [Bool.eq_iff_iff, h, h2]
theorem perm_any {α : Type} (p : α → Bool) {l m : List α} (h : l.Perm m) : l.any p = m.any p := by
  rw [Bool.eq_iff_iff, List.any_eq_true, List.any_eq_true]
  exact ⟨fun ⟨x, h1, h2⟩ => ⟨x, h.mem_iff.1 h1, h2⟩, fun ⟨x, h1, h2⟩ => ⟨x, h.mem_iff.2 h1, h2⟩⟩
theorem loop_any {Q R : Type} (p : Q → Bool) (B : Q → Unit → Option (R ⊕ Unit)) (k : Unit → Option R) (r e : R) (hB : ∀ q, B q () = some (bif p q then .inl r else .inr ())) (hk : k () = some e) : ∀ l : List Q, mapLoop B k l () = some (bif l.any p then r else e)
  | [] => by rw [mapLoop, hk]; rfl
  | q :: l => by
    rw [mapLoop, hB, Option.bind_some, List.any_cons]
    cases p q with
    | true => rfl
    | false =>
      rw [cond_false, Bool.false_or]
      exact loop_any p B k r e hB hk l
theorem perm_loop {Q R : Type} (p : Q → Bool) (B : Q → Unit → Option (R ⊕ Unit)) (k : Unit → Option R) (r e : R) (hB : ∀ q, B q () = some (bif p q then .inl r else .inr ())) (hk : k () = some e) (l : List Q) : permO (fun l' => mapLoop B k l' ()) l = some (bif l.any p then r else e) :=
  permO_of fun l' hl => by rw [loop_any p B k r e hB hk l', perm_any p hl]
theorem bl_L2 (code : List S_api_Instr) (mm : List ((Int × Int) × Bool)) (hp : ∀ x y, (mget mm (x, y)).getD false = ap code x y) (q : Hd) (s0 : List (S_api_Decl × Bool)) (h : List Hd) : lf_instr_checker_block_s1_L2 (some (.inr ())) mm (q.f0_register, ⟨q.f1_name, q.f2_arity⟩) s0 (mH h) = some (bif (h.any fun r => decide (q.f0_register < r.f0_register) && bad code q r) then .inl (18, s0) else .inr ()) := by
  rw [lf_instr_checker_block_s1_L2]
  rw [perm_loop (fun r : Int × S_api_Decl => decide (q.f0_register < r.1) && (decide ((⟨q.f1_name, q.f2_arity⟩ : S_api_Decl) = r.2) && !ap code q.f0_register r.1)) _ _ (.inl (18, s0)) (.inr ()) (fun r => ?_) (by rw [lf_instr_checker_block_s1_L2_E])]
  · congr 2
    unfold mH
    rw [List.any_map]
    congr 1
    funext r
    simp only [Function.comp, bad, ba_eqI]
    congr 2
    rw [Bool.eq_iff_iff]
    simp only [decide_eq_true_eq, Bool.and_eq_true, beq_iff_eq]
    constructor
    · intro e
      injection e with e1 e2
      exact ⟨e1, e2⟩
    · rintro ⟨e1, e2⟩
      rw [e1, e2]
  · rw [lf_instr_checker_block_s1_L2_B, hp]
    cases decide (q.f0_register < r.1) <;> cases decide ((⟨q.f1_name, q.f2_arity⟩ : S_api_Decl) = r.2) <;> cases ap code q.f0_register r.1 <;> rfl
theorem bl_L1 (code : List S_api_Instr) (mm : List ((Int × Int) × Bool)) (hp : ∀ x y, (mget mm (x, y)).getD false = ap code x y) (s0 : List (S_api_Decl × Bool)) (h : List Hd) : lf_instr_checker_block_s1_L1 (some (0, s0)) (mH h) mm s0 (mH h) = some (bif anyBad code h h then (18, s0) else (0, s0)) := by
  rw [lf_instr_checker_block_s1_L1]
  have hB : ∀ q : Int × S_api_Decl, lf_instr_checker_block_s1_L1_B (some (0, s0)) (mH h) mm s0 q = some (bif (h.any fun r => decide (q.1 < r.f0_register) && bad code ⟨q.1, q.2.f0_Name, q.2.f1_Arity⟩ r) then .inl (18, s0) else .inr ()) := fun q => by
    rw [lf_instr_checker_block_s1_L1_B]
    exact bl_L2 code mm hp ⟨q.1, q.2.f0_Name, q.2.f1_Arity⟩ s0 h
  rw [perm_loop (fun q : Int × S_api_Decl => h.any fun r => decide (q.1 < r.f0_register) && bad code ⟨q.1, q.2.f0_Name, q.2.f1_Arity⟩ r) _ _ (18, s0) (0, s0) hB (by rw [lf_instr_checker_block_s1_L1_E])]
  congr 2
  unfold mH anyBad
  rw [List.any_map]
  rfl
/-- The first error of a block of an image. -/
noncomputable def bE (m : S_api_Image) (u : S_api_Unit) (b : S_api_Block) : Int :=
  if cK b ≠ 0 then cK b else if m.f2_Rules ≤ b.f0_Occ.f0_Rule then 5 else match blkL m b.f1_Code [⟨b.f0_Occ.f1_Head, u.f0_Name, u.f1_Arity⟩] with
    | .inl e => e
    | .inr h => if pz b.f1_Code [] h then 18 else 0
theorem okb_reg {b : S_api_Block} (h : Okb b) : regL b [b.f0_Occ.f1_Head] [] b.f1_Code = true ∧ ∀ x ∈ b.f1_Code, x.f0_Op = 3 → 0 ≤ x.f2_B := by
  obtain ⟨k1, k2, k3, k4, s, k5, k6⟩ := h
  constructor
  · have hF : formedF b = true := by unfold formedF; rw [k5]; exact k6
    rw [formed_ref b k3 fun x hx => rg_of (k4 x hx), Bool.and_eq_true] at hF
    exact (Bool.and_eq_true _ _ ▸ hF.2 : _ ∧ _).1
  · intro x hx h3
    have := k4 x hx
    unfold rI at this
    simp only [h3, Int.reduceEq, if_true, if_false, Bool.and_eq_true, decide_eq_true_eq] at this
    exact this.1.1.1.2
theorem block_lf (m : S_api_Image) (u : S_api_Unit) (b : S_api_Block) (hb : BiB b) {mm : List (S_api_Decl × Bool)} (hu : Mu mm m.f0_Units) : lf_instr_checker_block_s1 m u b mm = some (bE m u b, mm) := by
  rw [lf_instr_checker_block_s1, check_lf b hb, Option.bind_some, bE]
  by_cases h0 : cK b = 0
  · have hk := cK_zero.1 h0
    obtain ⟨g1, g2⟩ := okb_reg hk
    have hn := hk.n
    rw [h0, show ((0 : Int) != 0) = false from rfl, cond_false, if_neg (by simp)]
    by_cases hr : m.f2_Rules ≤ b.f0_Occ.f0_Rule
    · rw [decide_eq_true (by omega), cond_true, if_pos hr]
    · rw [decide_eq_false (by omega), cond_false, if_neg hr, show mputO ([] : List (Int × S_api_Decl)) b.f0_Occ.f1_Head (⟨u.f0_Name, u.f1_Arity⟩ : S_api_Decl) = some (mH [⟨b.f0_Occ.f1_Head, u.f0_Name, u.f1_Arity⟩]) from if_pos (by simp), Option.bind_some,
        blk_L0 _ m mm hu b (fun h => some (bif pz b.f1_Code [] h then (18, mm) else (0, mm))) b.f1_Code [] [⟨b.f0_Occ.f1_Head, u.f0_Name, u.f1_Arity⟩] [] [] g2 g1 (by simp) ⟨fun x y => rfl, by simp⟩ (by simp; omega) (by simp) (fun h' mm' a1 a2 _ => (bl_L1 b.f1_Code mm' a1.g mm h').trans (by rw [anyBad_pz _ _ a2]))]
      cases blkL m b.f1_Code [⟨b.f0_Occ.f1_Head, u.f0_Name, u.f1_Arity⟩] with
      | inl e => rfl
      | inr h' =>
        simp only []
        cases pz b.f1_Code [] h' <;> rfl
  · rw [show (cK b != 0) = true by simpa using h0, cond_true, if_pos h0]
theorem refBlock_lf (m : S_api_Image) (u : S_api_Unit) (b : S_api_Block) (hb : BiB b) : lf_constraintref32_block m u b = some (bE m u b) := by
  rw [lf_constraintref32_block, refCheck_lf b hb, Option.bind_some, bE]
  by_cases h0 : cK b = 0
  · have hk := cK_zero.1 h0
    obtain ⟨g1, g2⟩ := okb_reg hk
    have hn := hk.n
    rw [h0, show ((0 : Int) != 0) = false from rfl, cond_false, if_neg (by simp)]
    by_cases hr : m.f2_Rules ≤ b.f0_Occ.f0_Rule
    · rw [decide_eq_true (by omega), cond_true, if_pos hr]
    · rw [decide_eq_false (by omega), cond_false, if_neg hr, refBlk_L0 _ m b.f1_Code _ g2 (by simp; omega)]
      cases blkL m b.f1_Code [⟨b.f0_Occ.f1_Head, u.f0_Name, u.f1_Arity⟩] with
      | inl e => rfl
      | inr h' =>
        simp only []
        rw [ref_L1 (some 0) b h' h' 0 rfl, List.take_zero]
        cases pz b.f1_Code [] h' <;> rfl
  · rw [show (cK b != 0) = true by simpa using h0, cond_true, if_pos h0]

/-! ### images -/
noncomputable def bsE (m : S_api_Image) (l : List S_api_Unit) : Int := firstE (fun u => firstE (bE m u) u.f2_Blocks) l
theorem img_L4 (k : List (S_api_Decl × Bool) → Option Int) (m : S_api_Image) (u : S_api_Unit) {mm : List (S_api_Decl × Bool)} (hu : Mu mm m.f0_Units) : ∀ l : List S_api_Block, (∀ b ∈ l, BiB b) → lf_instr_CheckImage_L4 k m u l mm = if firstE (bE m u) l ≠ 0 then some (firstE (bE m u) l) else k mm
  | [], _ => by rw [lf_instr_CheckImage_L4]; rfl
  | b :: l, h => by
    rw [lf_instr_CheckImage_L4, block_lf m u b (h b (List.mem_cons_self ..)) hu, Option.bind_some, firstE]
    simp only []
    rw [img_L4 k m u hu l fun x hx => h x (List.mem_cons_of_mem _ hx)]
    by_cases h0 : bE m u b = 0
    · rw [h0]; simp
    · rw [show (bE m u b != 0) = true by simpa using h0, cond_true, if_pos h0, if_pos h0]
theorem img_L3 (m : S_api_Image) {mm : List (S_api_Decl × Bool)} (hu : Mu mm m.f0_Units) : ∀ l : List S_api_Unit, (∀ u ∈ l, BiU u) → lf_instr_CheckImage_L3 (some 0) m l mm = some (bsE m l)
  | [], _ => by rw [lf_instr_CheckImage_L3]; rfl
  | u :: l, h => by
    have ih := img_L3 m hu l fun x hx => h x (List.mem_cons_of_mem _ hx)
    rw [lf_instr_CheckImage_L3, img_L4 _ m u hu u.f2_Blocks (h u (List.mem_cons_self ..)), ih, show bsE m (u :: l) = if firstE (bE m u) u.f2_Blocks ≠ 0 then firstE (bE m u) u.f2_Blocks else bsE m l from rfl]
    by_cases h0 : firstE (bE m u) u.f2_Blocks = 0
    · rw [h0]; simp
    · rw [if_pos h0, if_pos h0]
theorem img_L0 (k : Option Int) : ∀ l : List S_api_Unit, lf_instr_CheckImage_L0 k l = bif l.any (fun u => decide (160 < u.f2_Blocks.length)) then some 6 else k
  | [] => by rw [lf_instr_CheckImage_L0]; rfl
  | u :: l => by
    rw [lf_instr_CheckImage_L0, img_L0 k l, List.any_cons, show decide ((u.f2_Blocks.length : Int) > 160) = decide (160 < u.f2_Blocks.length) from decide_eq_decide.2 (by omega)]
    cases decide (160 < u.f2_Blocks.length) <;> rfl
theorem refImg_L0 (k : Option Int) : ∀ l : List S_api_Unit, lf_constraintref32_CheckImage_L0 k l = bif l.any (fun u => decide (160 < u.f2_Blocks.length)) then some 6 else k
  | [] => by rw [lf_constraintref32_CheckImage_L0]; rfl
  | u :: l => by
    rw [lf_constraintref32_CheckImage_L0, refImg_L0 k l, List.any_cons, show decide ((u.f2_Blocks.length : Int) > 160) = decide (160 < u.f2_Blocks.length) from decide_eq_decide.2 (by omega)]
    cases decide (160 < u.f2_Blocks.length) <;> rfl
theorem refImg_L2 (k : Int → Option Int) (m : S_api_Image) (u : S_api_Unit) : ∀ (l : List S_api_Block) (e : Int), (∀ b ∈ l, BiB b) → lf_constraintref32_CheckImage_L2 k m u l e = k (if e ≠ 0 then e else firstE (bE m u) l)
  | [], e, _ => by
    rw [lf_constraintref32_CheckImage_L2, firstE]
    by_cases h : e = 0
    · simp [h]
    · rw [if_pos h]
  | b :: l, e, h => by
    rw [lf_constraintref32_CheckImage_L2, refBlock_lf m u b (h b (List.mem_cons_self ..)), Option.bind_some, refImg_L2 k m u l _ fun x hx => h x (List.mem_cons_of_mem _ hx), firstE]
    by_cases h0 : e = 0
    · simp [h0]
    · rw [beq_f h0, cond_false, if_pos h0]
theorem refImg_L1 (m : S_api_Image) : ∀ (l : List S_api_Unit) (e : Int), (∀ u ∈ l, BiU u) → lf_constraintref32_CheckImage_L1 (fun e_10 => some e_10) m l e = some (if e ≠ 0 then e else bsE m l)
  | [], e, _ => by
    rw [lf_constraintref32_CheckImage_L1]
    by_cases h : e = 0
    · simp [h, bsE, firstE]
    · rw [if_pos h]
  | u :: l, e, h => by
    rw [lf_constraintref32_CheckImage_L1, refImg_L2 _ m u u.f2_Blocks e (h u (List.mem_cons_self ..)), refImg_L1 m l _ fun x hx => h x (List.mem_cons_of_mem _ hx)]
    by_cases h0 : e = 0
    · subst h0
      simp only [beq_self_eq_true, cond_true, bsE, firstE]
      simp
    · rw [beq_f h0, cond_false, if_pos h0]
/-- The first error of an image. -/
noncomputable def iE (m : S_api_Image) : Int :=
  if m.f2_Rules < 0 then 5 else if 40 < m.f2_Rules then 5 else if 30 < m.f0_Units.length then 6 else if 480 < m.f1_Access.length then 6 else if m.f0_Units.any (fun u => decide (160 < u.f2_Blocks.length)) = true then 6
  else if firstE aE m.f1_Access ≠ 0 then firstE aE m.f1_Access else if unE [] m.f0_Units ≠ 0 then unE [] m.f0_Units else bsE m m.f0_Units
theorem image_lf (m : S_api_Image) (h : BM m) : lf_instr_CheckImage m = some (iE m) := by
  have hu := h.u
  have ha := h.a
  rw [lf_instr_CheckImage, iE, img_L0, accs_L1, units_L2 _ m (bsE m m.f0_Units) m.f0_Units [] [] ⟨fun n a => rfl, Nat.le_refl _⟩ (by simp; omega) fun mm' hm => img_L3 m hm m.f0_Units h.m]
  by_cases h1 : m.f2_Rules < 0
  · rw [decide_eq_true h1, cond_true, if_pos h1]
  rw [decide_eq_false h1, cond_false, if_neg h1]
  by_cases h2 : 40 < m.f2_Rules
  · rw [decide_eq_true (by omega), cond_true, if_pos h2]
  rw [decide_eq_false (by omega), cond_false, if_neg h2]
  by_cases h3 : 30 < m.f0_Units.length
  · rw [decide_eq_true (by omega), cond_true, if_pos h3]
  rw [decide_eq_false (by omega), cond_false, if_neg h3]
  by_cases h4 : 480 < m.f1_Access.length
  · rw [decide_eq_true (by omega), cond_true, if_pos h4]
  rw [decide_eq_false (by omega), cond_false, if_neg h4]
  cases m.f0_Units.any fun u => decide (160 < u.f2_Blocks.length) with
  | true => simp
  | false =>
    rw [cond_false, if_neg Bool.false_ne_true]
    by_cases h5 : firstE aE m.f1_Access = 0
    · simp [h5]
    · rw [if_pos h5, if_pos h5]
theorem refImage_lf (m : S_api_Image) (h : BM m) : lf_constraintref32_CheckImage m = some (iE m) := by
  have hu := h.u
  have ha := h.a
  have hU := refUnits_L0 m.f0_Units m.f0_Units 0 rfl (by omega) fun u hu => (h.us u hu).2.2
  rw [List.take_zero] at hU
  rw [lf_constraintref32_CheckImage, iE, refImg_L0, lf_constraintref32_access, refAccess_L0 _ h.acc, Option.bind_some, lf_constraintref32_CheckImage_J0, lf_constraintref32_units, hU, Option.bind_some, refImg_L1 m _ _ h.m, refImg_L1 m _ _ h.m]
  by_cases h1 : m.f2_Rules < 0
  · rw [decide_eq_true h1, cond_true, if_pos h1]
  rw [decide_eq_false h1, cond_false, if_neg h1]
  by_cases h2 : 40 < m.f2_Rules
  · rw [decide_eq_true (by omega), cond_true, if_pos h2]
  rw [decide_eq_false (by omega), cond_false, if_neg h2]
  by_cases h3 : 30 < m.f0_Units.length
  · rw [decide_eq_true (by omega), cond_true, if_pos h3]
  rw [decide_eq_false (by omega), cond_false, if_neg h3]
  by_cases h4 : 480 < m.f1_Access.length
  · rw [decide_eq_true (by omega), cond_true, if_pos h4]
  rw [decide_eq_false (by omega), cond_false, if_neg h4]
  cases m.f0_Units.any fun u => decide (160 < u.f2_Blocks.length) with
  | true => simp
  | false =>
    rw [cond_false, if_neg Bool.false_ne_true]
    by_cases h5 : firstE aE m.f1_Access = 0
    · simp [h5]
    · rw [beq_f h5, cond_false, if_pos h5, if_pos h5]
theorem image32 (m : S_api_Image) (hn : NiM m) : lf_constraintlaw32_InstrImage m = some true := by
  rw [lf_constraintlaw32_InstrImage]
  obtain ⟨c, e1, e2⟩ := greatM_lf m 600 (by omega) (by omega) hn
  rw [e1, Option.bind_some]
  cases c with
  | true => rfl
  | false =>
    have hB := e2 rfl
    rw [cond_false, image_lf m hB, Option.bind_some, refImage_lf m hB, Option.bind_some, live32]
    simp
theorem gives_InstrImage (m : S_api_Image) : Gives Tryz.prog 4 [enc_S_api_Image m] (.bool true) := fun w p vs hi hv => by
  have hv' := hv
  simp only [Repl] at hv'
  obtain ⟨v, _, _, h, _⟩ := hv'
  exact lg_constraintlaw32_InstrImage m true (image32 m (nim_of h)) w p vs hi hv
end Go.Proofs.YtbdhjkneoandiaaGreat
namespace Go.Proofs.YtbdhjkneoandiaaGreat.instrImage
set_option maxRecDepth 100000
open Go.ChangeShapes Go.WideShapes Go.ChangeAt Go.RowKit
set_option linter.unusedVariables false

theorem holds : Holds 4 Tryz.f4 :=
  holds_of [aImage] (by rw [Tryz.params4]; rfl) fun es h => by
    match es, h with
    | [_], ⟨⟨m, rfl⟩, _⟩ => exact gives_InstrImage _

set_option maxRecDepth 100000 in
theorem lifted (os : Os) (started : os.Started) (H : Type) (enc : TypeId × Value → H) :
    ReturnsInHanded {} Tryz.checked os 4 .any (Rows.instrImageSpec.pre6 enc Tryz.prog Tryz.f4 Rows.instrImageRow.domain false) (Rows.instrImageSpec.post enc Tryz.prog Tryz.f4 false true false false) := by
  refine returnsInHanded_of_change (C := Tryz.checked) own started (by kernel_rfl) Tryz.func4
    (ChangeSpec.witness6 (enc := enc) (C := Tryz.checked) false ⟨#[], #[.agg #[.slice none 0 0, .slice none 0 0, .int .i64 0]], []⟩ 8 (by kernel_rfl) (by kernel_rfl) (by kernel_rfl) (by kernel_rfl)) ?_
  intro W base args ds gs before hval hW _ _
  exact law_contract holds rfl (by kernel_rfl) rfl rfl (fun H ds h => by
    match ds, h with
    | [_], _ => rfl) W base args ds gs before hval hW

theorem over : Rows.instrImageRow.holds Tryz.pinned (OpenSpec.ofChange Rows.instrImageSpec) :=
  OpenClaim.holds_of_wide 4 Tryz.f4 rfl rfl rfl rfl rfl rfl rfl ⟨rfl, rfl, rfl, rfl, rfl⟩ rfl rfl rfl rfl rfl (by kernel_rfl) Tryz.func4 (by kernel_rfl)
    (of_decide_eq_true (by kernel_rfl)) (by unfold Func.isWrapper; first | (rw [if_pos (by decide +kernel)]; kernel_rfl) | (rw [if_neg (by decide +kernel)]; exact ⟨rfl, rfl⟩))
    (fun os started H enc _ => lifted os started H enc)

theorem proved : Rows.InstrImageSaid :=
  over
#print axioms proved
end Go.Proofs.YtbdhjkneoandiaaGreat.instrImage
