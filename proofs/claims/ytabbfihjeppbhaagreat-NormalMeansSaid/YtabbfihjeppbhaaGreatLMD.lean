/-
 Texts of the seat, merged.
-/
import Derived.Test.YtabbfihjeppbhaaGreatLMA
import Derived.Test.YtabbfihjeppbhaaGreatLMB
import Derived.Test.YtabbfihjeppbhaaGreatLMC
import Derived.Test.YtabbfihjeppbhaaGreatChecked
import Derived.WalkKit
import Derived.Lib.Hide
import Derived.Lib.AppendStr
import Derived.Deep.AppendLies
import Derived.Deep.AppendSrc
import Derived.Deep.Draws
import Derived.Deep.QuietTactic
import Derived.BigQuiet
import Derived.Deep.RegionWith
import Derived.Maps.AppendAt
import Derived.WalkSpells
import Derived.Orders
import Derived.Deep.Slices
import Derived.Deep.Fields
import Derived.ChangeArms
import Derived.Lib.OthersKept
import Derived.Lib.TrimU
import Derived.Lib.IndexAny
import Derived.Deep.LoopGhost
import Derived.Lib.Bytealg
import Derived.RangeFuncBox
import Derived.RangeFuncNested
import Derived.RangeFuncBound
import Derived.RangeFuncCalls
import Derived.RangeFuncLeaves
import Derived.Shelf.Abstract
import Derived.OwnWalkIn
import Derived.TacticsInMore
import Derived.LoopNIn
import Derived.LoopIn
import Derived.RangeFuncWrites
import Derived.Maps.OwnIn
import Derived.Maps.Views
import Derived.Laws.OwnMore
import Derived.Maps.OwnSet
import Derived.Test.YtabbfihjeppbhaaGreatRows
import Derived.ProofKit
import Derived.OpenShut
import Derived.Carry
import Derived.OrdersIn
import Derived.Great.BuildSlice
import Derived.ArgAppend
import Derived.Laws.MakeOwn
import Derived.Laws.Cover3
import Derived.Laws.CopyRow
import Derived.MapKept
import Derived.Maps.RangeRun
import Derived.DeepKeys5
import Derived.WideKeyRuns
import Derived.RangeFuncOwn
set_option linter.unusedVariables false
set_option linter.unusedSimpArgs false
set_option linter.unnecessarySimpa false
set_option linter.all false
namespace Go.Proofs.YtabbfihjeppbhaaGreat
set_option maxRecDepth 100000
open Go.RowKit
inductive Pl where
 | nil
 | cons (i : Nat) (D : List (Nat × Cls)) (next sib : Pl)
def Pl.heads : Pl → List Nat
 | .nil => []
 | .cons i _ _ sb => i :: sb.heads
def Pl.alts : Pl → List (Nat × List (Nat × Cls) × Pl)
 | .nil => []
 | .cons i D nx sb => (i, D, nx) :: sb.alts
def Pl.first : Pl → List (Nat × Cls)
 | .nil => []
 | .cons i D nx _ => (i, .w) :: D ++ nx.first
def zaF (P : Program) (ops : Array Oper) (Q : Env → St → Prop) : Pl → Bool → Env → St → Prop
 | .nil, true => Q
 | .nil, false => fun _ _ => True
 | .cons i D nx sb, _ => fun e s => Run P ops NX (zaF P ops Q nx true) ((i, .w) :: D) e s ∧ zaF P ops Q sb false e s
section
variable {P : Program} {ops : Array Oper} {Q : Env → St → Prop}
theorem qbJ {e : Env} {s : St} (h : Q e s) : zaF P ops Q .nil true e s := h
theorem zf {e : Env} {s : St} : zaF P ops Q .nil false e s := trivial
theorem qv {i : Nat} {D : List (Nat × Cls)} {nx sb : Pl} {f : Bool} {e : Env} {s : St} (h : Run P ops NX (zaF P ops Q nx true) ((i, .w) :: D) e s) (h2 : zaF P ops Q sb false e s) : zaF P ops Q (.cons i D nx sb) f e s := ⟨h, h2⟩
theorem qoe {e : Env} {s : St} : ∀ {p : Pl} {f : Bool}, zaF P ops Q p f e s → ∀ x ∈ p.alts, Run P ops NX (zaF P ops Q x.2.2 true) ((x.1, .w) :: x.2.1) e s
 | .nil, _, _, x, hx => by cases hx
 | .cons i D nx sb, _, h, x, hx => by
  rcases List.mem_cons.1 hx with rfl | hx
  · exact h.1
  · exact qoe h.2 x hx
def yl (ops : Array Oper) (M : Array Nat) : List (Nat × Cls) → Bool
 | [] => true
 | x :: l => (x.2.isW || l.all fun y => z7 ops M x y) && yl ops M l
def zbd (ops : Array Oper) (M : Array Nat) (ord : List (Nat × Cls)) (H : List Nat) : Bool := (List.range ops.size).all fun k => (ord.any fun x => x.1 == k) || ((H.any fun x => x == k) || ((List.range ops.size).any fun j => !(ord.any fun x => x.1 == j) && (M.getD k 0).testBit j))
def okP (ops : Array Oper) (M : Array Nat) : Pl → List (Nat × Cls) → List Nat → Bool → Bool
 | .nil, ord, _, f => !f || (y7 ops.size ord && yl ops M ord)
 | .cons i D nx sb, ord, H, _ => zbd ops M ord H && (D.all fun x => !x.2.isW) && okP ops M nx (ord ++ (i, .w) :: D) nx.heads true && okP ops M sb ord H false
def za6 (ops : Array Oper) (pre : List (Nat × Cls)) (p : Pl) : Bool := zaS ops (za7 ops.size ((pre ++ p.first).map (·.1))) (yx ops ((pre ++ p.first).map (·.1))) && zbA ops (za7 ops.size ((pre ++ p.first).map (·.1))) && (pre.all fun x => !x.2.isW) && okP ops (yx ops ((pre ++ p.first).map (·.1))) p pre p.heads true
theorem qlt {M : Array Nat} : ∀ {p : Pl} {ord : List (Nat × Cls)} {H : List Nat}, okP ops M p ord H true = true → ∃ ext, y7 ops.size (ord ++ ext) = true ∧ yl ops M (ord ++ ext) = true ∧ ((∃ i D nx sb, p = .cons i D nx sb ∧ ∃ e', ext = (i, .w) :: e') ∨ (p = .nil ∧ ext = []))
 | .nil, ord, H, h => by
  simp only [okP, Bool.not_true, Bool.false_or, Bool.and_eq_true] at h
  exact ⟨[], by rw [List.append_nil]; exact h.1, by rw [List.append_nil]; exact h.2, .inr ⟨rfl, rfl⟩⟩
 | .cons i D nx sb, ord, H, h => by
  simp only [okP, Bool.and_eq_true] at h
  obtain ⟨ext, h1, h2, _⟩ := qlt h.1.2
  rw [List.append_assoc] at h1 h2
  exact ⟨_, h1, h2, .inl ⟨i, D, nx, sb, rfl, _, rfl⟩⟩
theorem qmP {M : Array Nat} : ∀ {p : Pl} {ord : List (Nat × Cls)} {H : List Nat} {f : Bool}, okP ops M p ord H f = true → ∀ x ∈ p.alts, zbd ops M ord H = true ∧ (∀ y ∈ x.2.1, y.2.isW = false) ∧ okP ops M x.2.2 (ord ++ (x.1, .w) :: x.2.1) x.2.2.heads true = true
 | .nil, _, _, _, _, x, hx => by cases hx
 | .cons i D nx sb, ord, H, f, h, x, hx => by
  simp only [okP, Bool.and_eq_true] at h
  rcases List.mem_cons.1 hx with rfl | hx
  · exact ⟨h.1.1.1, fun y hy => by simpa using List.all_eq_true.1 h.1.1.2 y hy, h.1.2⟩
  · exact qmP h.2 x hx
theorem qlW : ∀ {p : Pl} {k : Nat}, k ∈ p.heads → ∃ x ∈ p.alts, x.1 = k
 | .nil, _, h => by cases h
 | .cons i D nx sb, k, h => by
  rcases List.mem_cons.1 h with rfl | h
  · exact ⟨_, List.mem_cons_self .., rfl⟩
  · obtain ⟨x, h1, h2⟩ := qlW h
    exact ⟨x, List.mem_cons_of_mem _ h1, h2⟩
theorem qfx {M : Array Nat} : ∀ {l m : List (Nat × Cls)} {x y : Nat × Cls}, yl ops M (l ++ x :: m) = true → x.2.isW = false → y ∈ m → z7 ops M x y = true
 | [], m, x, y, h, hx, hy => by
  simp only [List.nil_append, yl, hx, Bool.false_or, Bool.and_eq_true] at h
  exact List.all_eq_true.1 h.1 y hy
 | z :: l, m, x, y, h, hx, hy => by
  simp only [List.cons_append, yl, Bool.and_eq_true] at h
  exact qfx h.2 hx hy
theorem zaT {σ : St} {l : List (Nat × Cls)} {E : Env} (hq : ∀ x ∈ l, x.2.isW = false) (h : Run P ops NX Q l E σ) : ∃ new : List PE, l = new.map (fun e => (e.i, e.c)) ∧ Q (yk E new) σ ∧ (∀ d1 e d2, new = d1 ++ e :: d2 → e.E = yk E d1 ∧ ops[e.i]? = some e.o ∧ zax P ops σ e ∧ e.c.isW = false) := by
 obtain ⟨new, l', h1, h2, h3, h4⟩ := zaU (P := P) (Q := Q) E σ l E h
 rcases h4 with rfl | ⟨i, c, l'', rfl, hc⟩
 · exact ⟨new, by rw [h1, List.append_nil], h2, h3⟩
 · have := hq (i, c) (by rw [h1]; simp)
   rw [hc] at this
   cases this
structure MidP (P : Program) (ops : Array Oper) (Q : Env → St → Prop) (K : Ctx) (n : Nat) (m : Md) (M : Array Nat) (env0 : Env) (done : List PE) (p : Pl) (listed : Array Bool) (σ : St) (a : Act) (w : World) : Prop where
 ok : okP ops M p (done.map fun e => (e.i, e.c)) p.heads true = true
 chain : ∀ d1 e d2, done = d1 ++ e :: d2 → e.E = yk env0 d1 ∧ ops[e.i]? = some e.o ∧ (Tof listed e.i = false → zax P ops σ e ∧ e.c.isW = false)
 rest : zaF P ops Q p true (yk env0 done) σ
 new : ∀ k, Tof listed k = true → ∃ e ∈ done, e.i = k
 down : Down ops listed
 size : listed.size = ops.size
 good : Good K n m (zG (Tof listed) env0 done) σ a w
end
section
variable {P : Program} {ops : Array Oper} {Q : Env → St → Prop}
theorem qra {n : Nat} {md : Md} {K : Ctx} {env0 : Env} {M r : Array Nat} (hok : yO ops n = true) (hM : zaS ops r M = true) (hL : zbA ops r = true) :
 ∀ (fuel : Nat) (pl : Pl) (done : List PE) (listed : Array Bool) (σ : St) (a : Act) (w : World), MidP P ops Q K n md M env0 done pl listed σ a w → yy ops.size listed = fuel →
  wpAnyIn (fw md.rd) 0 P .any ops (zaX P K n md NX Q) fuel listed a w := by
 intro fuel
 induction fuel with
 | zero =>
  intro pl done listed σ a w m h0
  have hall : ∀ i, i < ops.size → Tof listed i = true := fun i hi => by
   cases hT : Tof listed i with
   | true => rfl
   | false =>
    have : (i, Cls.d) ∈ ((List.range ops.size).map fun i => (i, Cls.d)).filter fun x => !Tof listed x.1 := List.mem_filter.2 ⟨List.mem_map.2 ⟨i, by simpa using hi, rfl⟩, by simp [hT]⟩
    have := List.length_pos_of_mem this
    unfold yy left at h0
    omega
  refine ⟨?_, .inl ⟨rfl, ?_⟩⟩
  · refine List.eq_nil_iff_forall_not_mem.2 fun i hi => ?_
    obtain ⟨hun, o, ho, _⟩ := mem_ready.1 hi
    have hi' := (Array.getElem?_eq_some_iff.1 ho).1
    have := hall i hi'
    unfold Tof at this
    have hs : i < listed.size := by rw [m.size]; exact hi'
    simp [hs] at this hun
    rw [this] at hun
    cases hun
  · obtain ⟨ext, hI, _, hext⟩ := qlt m.ok
    simp only [y7, Bool.and_eq_true, decide_eq_true_eq] at hI
    obtain ⟨⟨_, hI2⟩, hnd⟩ := hI
    have hpl : pl = .nil := by
     rcases hext with ⟨i, D, nx, sb, _, e', rfl⟩ | ⟨h, _⟩
     · exfalso
       have hi : i < ops.size := by simpa using List.all_eq_true.1 hI2 (i, .w) (by simp)
       obtain ⟨e, he, hei⟩ := m.new i (hall i hi)
       rw [List.map_append, List.map_map] at hnd
       exact (List.nodup_append.1 hnd).2.2 e.i (List.mem_map_of_mem he) i (by simp) hei
     · exact h
    obtain ⟨p, g1, g2, g3, g4⟩ := m.good
    have hr := m.rest
    rw [hpl] at hr
    have he : zG (Tof listed) env0 done = yk env0 done := qez fun e he => by
     obtain ⟨d1, d2, hd⟩ := List.append_of_mem he
     exact hall e.i (Array.getElem?_eq_some_iff.1 (m.chain d1 e d2 hd).2.1).1
    exact ⟨_, σ, p, hr, g1, he ▸ g2, g3, g4⟩
 | succ fuel ih =>
  intro pl done listed σ a w m h0
  obtain ⟨ext, hI, hP, hext⟩ := qlt m.ok
  simp only [y7, Bool.and_eq_true, decide_eq_true_eq] at hI
  obtain ⟨⟨hI1, hI2⟩, hnd⟩ := hI
  obtain ⟨p, g1, g2, g3, g4⟩ := m.good
  have hmask := fun k o ho hall j hj => qkO (ops := ops) hM m.down _ k o rfl ho hall j hj
  refine ⟨fun hnone => ?_, fun i hi => ?_⟩
  · exfalso
    -- one that has not come up, the first of them
    have hex : ∃ i, i < ops.size ∧ Tof listed i = false := by
     have : 0 < yy ops.size listed := by omega
     unfold yy left at this
     obtain ⟨x, hx⟩ := List.exists_mem_of_length_pos this
     obtain ⟨hx1, hx2⟩ := List.mem_filter.1 hx
     obtain ⟨y, hy, rfl⟩ := List.mem_map.1 hx1
     exact ⟨y, by simpa using hy, by simpa using hx2⟩
    obtain ⟨i, hi1, hi2⟩ := hex
    have : ∀ n k, r.getD k 0 = n → k < ops.size → Tof listed k = false → False := by
     intro n
     induction n using Nat.strongRecOn with
     | _ n ihk =>
      intro k hkn hk1 hk2
      have hr : k ∈ Region.ready .any ops listed := by
       refine mem_ready.2 ⟨?_, ops[k], Array.getElem?_eq_getElem hk1, fun e he hb => ?_⟩
       · have hs : k < listed.size := by rw [m.size]; exact hk1
         unfold Tof at hk2
         simp [hs] at hk2 ⊢
         exact hk2
       · cases hT : Tof listed e.on with
         | true => exact hT
         | false =>
          have hl := List.all_eq_true.1 hL k (by simpa using hk1)
          simp only [Array.getElem?_eq_getElem hk1] at hl
          have := (Array.all_eq_true_iff_forall_mem.1 hl) e he
          simp only [hb, Bool.not_true, Bool.false_or, decide_eq_true_eq] at this
          exact (ihk _ (by rw [← hkn]; exact this.1) e.on rfl this.2 hT).elim
      rw [hnone] at hr
      cases hr
    exact this _ i rfl hi1 hi2
  · obtain ⟨hun, o, ho, hdeps⟩ := mem_ready.1 hi
    have hi' := (Array.getElem?_eq_some_iff.1 ho).1
    have hs : i < listed.size := by rw [m.size]; exact hi'
    have hT : Tof listed i = false := by
     unfold Tof
     simp [hs] at hun ⊢
     exact hun
    have hdown : Down ops (listed.setIfInBounds i true) := fun k o' ho' hk e he hb => by
     rw [qcC hs] at hk ⊢
     split
     · rfl
     · by_cases hki : k = i
       · subst hki
         rw [ho] at ho'
         injection ho' with ho'
         subst ho'
         exact hdeps e he hb
       · rw [if_neg hki] at hk
         exact m.down k o' ho' hk e he hb
    have hleft := qow (ord := (List.range ops.size).map fun i => (i, Cls.d)) (c := Cls.d) (by rw [List.map_map]; have : (Prod.fst ∘ fun i : Nat => (i, Cls.d)) = id := rfl; rw [this, List.map_id]; exact List.nodup_range) (List.mem_map.2 ⟨i, by simpa using hi', rfl⟩) hs hT
    -- who must have come up, who cannot have
    have before : ∀ x y : Nat × Cls, x.1 < ops.size → z7 ops M x y = true → y.1 = i → Tof listed x.1 = false → x.2.isW = false ∧ ¬(x.2 = .r ∧ y.2.isW = true) ∧ yo ops x.1 y.1 = true := fun x y hx hp hy hf => qhb hp (by
     cases hb : (M.getD y.1 0).testBit x.1 with
     | false => rfl
     | true =>
      rw [hy] at hb
      rw [hmask i o ho hdeps x.1 hx hb] at hf
      cases hf)
    have behind : ∀ x y : Nat × Cls, y.1 < ops.size → z7 ops M x y = true → x.1 = i → Tof listed y.1 = true → x.2.isW = false ∧ ¬(x.2 = .r ∧ y.2.isW = true) ∧ yo ops x.1 y.1 = true := fun x y hy hp hx ht => qhb hp (by
     cases hb : (M.getD y.1 0).testBit x.1 with
     | false => rfl
     | true =>
      have h1 := hmask y.1 _ (Array.getElem?_eq_getElem hy) (m.down y.1 _ (Array.getElem?_eq_getElem hy) ht) x.1 (by rw [hx]; exact hi') hb
      rw [hx, hT] at h1
      cases h1)
    have apartL : ∀ {j k : Nat} {x y : Oper}, yo ops j k = true → ops[j]? = some x → ops[k]? = some y → x.apart ops y = true := fun {j k x y} h hx hy => by
     unfold yo at h
     rw [hx, hy] at h
     exact h
    by_cases hin : ∃ e ∈ done, e.i = i
    · -- it is pending
      obtain ⟨e, he, hec⟩ := hin
      obtain ⟨d1, d2, hsplit⟩ := List.append_of_mem he
      obtain rfl : e.i = i := hec
      obtain ⟨hE, heo, hpend⟩ := m.chain d1 e d2 hsplit
      obtain ⟨hp, hcw⟩ := hpend hT
      have heq : e.o = o := by rw [heo] at ho; injection ho
      have hunl : ∀ x ∈ done, Tof listed x.i = false → x.c.isW = false := fun x hx hf => by
       obtain ⟨u1, u2, hu⟩ := List.append_of_mem hx
       exact ((m.chain u1 x u2 hu).2.2 hf).2
      have hpair1 : ∀ x ∈ d1, Tof listed x.i = false → z7 ops M (x.i, x.c) (e.i, e.c) = true := fun x hx hf => by
       obtain ⟨u1, u2, hu⟩ := List.append_of_mem hx
       have : yl ops M ((u1.map fun e => (e.i, e.c)) ++ (x.i, x.c) :: ((u2.map fun e => (e.i, e.c)) ++ (e.i, e.c) :: ((d2.map fun e => (e.i, e.c)) ++ ext))) = true := by
        rw [← hP, hsplit, hu]; simp
       exact qfx this (hunl x (by rw [hsplit]; exact List.mem_append_left _ hx) hf) (by simp)
      have hpair2 : ∀ x ∈ d2, z7 ops M (e.i, e.c) (x.i, x.c) = true := fun x hx => by
       have : yl ops M ((d1.map fun e => (e.i, e.c)) ++ (e.i, e.c) :: ((d2.map fun e => (e.i, e.c)) ++ ext)) = true := by
        rw [← hP, hsplit]; simp
       exact qfx this hcw (List.mem_append_left _ (List.mem_map_of_mem hx))
      have hmemlt : ∀ x ∈ done, x.i < ops.size ∧ ops[x.i]? = some x.o := fun x hx => by
       obtain ⟨u1, u2, hu⟩ := List.append_of_mem hx
       have := (m.chain u1 x u2 hu).2.1
       exact ⟨(Array.getElem?_eq_some_iff.1 this).1, this⟩
      have hin1 : ∀ x ∈ d1, x ∈ done := fun x hx => by rw [hsplit]; exact List.mem_append_left _ hx
      have hin2 : ∀ x ∈ d2, x ∈ done := fun x hx => by rw [hsplit]; exact List.mem_append_right _ (List.mem_cons_of_mem _ hx)
      have hlook : ∀ t ∈ o.looksAt ops, lk (zG (Tof listed) env0 done) t = lk e.E t := fun t ht => by
       rw [hsplit, qgs]
       have hcons : zG (Tof listed) (zG (Tof listed) env0 d1) (e :: d2) = zG (Tof listed) (zG (Tof listed) env0 d1) d2 := by simp [zG, hT]
       rw [hcons, qgl, hE]
       · refine qi5 (fun x hx hd => ?_) rfl
         cases hf : Tof listed x.i with
         | true => rfl
         | false =>
          have := (before (x.i, x.c) (e.i, e.c) (hmemlt x (hin1 x hx)).1 (hpair1 x hx hf) rfl hf).2.2
          have h5 := apartL this (hmemlt x (hin1 x hx)).2 ho
          exact absurd ht ((Oper.apart_spec h5).1 t hd)
       · intro x hx hf hd
         have := (behind (e.i, e.c) (x.i, x.c) (hmemlt x (hin2 x hx)).1 (hpair2 x hx) rfl hf).2.2
         have h5 := apartL this ho (hmemlt x (hin2 x hx)).2
         exact (Oper.apart_spec h5).2.2 t hd ht
      have hrep : ∀ t ∈ o.looksAt ops, ∀ d, lk e.E t = some d → Rep p w d (a.tmps.getD t Go.undef) := fun t ht d hd => g2 t d (by rw [hlook t ht]; exact hd)
      have hput : ∀ t, lk (zG (Tof (listed.setIfInBounds e.i true)) env0 done) t = lk ((zG (Tof listed) env0 done).put o.dst e.V) t := fun t => by
       have hne1 : ∀ x ∈ d1, x.i ≠ e.i := fun x hx hxe => by
        rw [hsplit] at hnd
        simp only [List.map_append, List.map_cons, List.map_map] at hnd
        have := List.nodup_append.1 (List.nodup_append.1 hnd).1
        exact this.2.2 _ (List.mem_map_of_mem hx) _ (List.mem_cons_self ..) hxe
       have hne2 : ∀ x ∈ d2, x.i ≠ e.i := fun x hx hxe => by
        rw [hsplit] at hnd
        simp only [List.map_append, List.map_cons, List.map_map] at hnd
        have := (List.nodup_append.1 (List.nodup_append.1 hnd).1).2.1
        simp only [List.nodup_cons] at this
        exact this.1 (List.mem_map.2 ⟨x, hx, hxe⟩)
       have e1 : zG (Tof (listed.setIfInBounds e.i true)) env0 done = zG (Tof listed) ((zG (Tof listed) env0 d1).put o.dst e.V) d2 := by
        rw [hsplit, qgs, qez (T := Tof (listed.setIfInBounds e.i true)) (T' := Tof listed) (l := d1) fun x hx => by rw [qcC hs, if_neg (hne1 x hx)]]
        have : zG (Tof (listed.setIfInBounds e.i true)) (zG (Tof listed) env0 d1) (e :: d2) = zG (Tof (listed.setIfInBounds e.i true)) ((zG (Tof listed) env0 d1).put o.dst e.V) d2 := by
         simp [zG, qcC hs, heq]
        rw [this]
        exact qez fun x hx => by rw [qcC hs, if_neg (hne2 x hx)]
       have e2 : zG (Tof listed) env0 done = zG (Tof listed) (zG (Tof listed) env0 d1) d2 := by
        rw [hsplit, qgs]; simp [zG, hT]
       rw [e1, e2, qeA]
       by_cases hd : o.dst = some t
       · rw [if_pos hd, qgl, qeA, if_pos hd]
         intro x hx hf hxd
         have := (behind (e.i, e.c) (x.i, x.c) (hmemlt x (hin2 x hx)).1 (hpair2 x hx) rfl hf).2.2
         have h5 := apartL this ho (hmemlt x (hin2 x hx)).2
         exact (Oper.apart_spec h5).2.1 t hd hxd
       · rw [if_neg hd]
         have gen : ∀ (m : List PE) (A B : Env), lk A t = lk B t → lk (zG (Tof listed) A m) t = lk (zG (Tof listed) B m) t := by
          intro m
          induction m with
          | nil => exact fun A B h => h
          | cons x m ihm =>
           intro A B h
           simp only [zG, List.foldl_cons]
           refine ihm _ _ ?_
           split
           · simp only [qeA]; split <;> simp [h]
           · exact h
         exact gen d2 _ _ (by rw [qeA, if_neg hd])
      have next : ∀ (a' : Act) (w' : World) (p' : Addr → Prop) (v : Value), a' = a.put o.dst v → Rep p' w' e.V v → Inv K p' σ w' → zM p w p' w' → MidP P ops Q K n md M env0 done pl (listed.setIfInBounds e.i true) σ a' w' := fun a' w' p' v ha' hv hi2 hg => by
       refine ⟨m.ok, fun u1 x u2 hu => ?_, m.rest, fun k hk => ?_, hdown, by simpa using m.size, ⟨p', hi2, fun t d ht => ?_, ?_, ?_⟩⟩
       · obtain ⟨q1, q2, q3⟩ := m.chain u1 x u2 hu
         refine ⟨q1, q2, fun hf => q3 ?_⟩
         rw [qcC hs] at hf
         split at hf
         · cases hf
         · exact hf
       · rw [qcC hs] at hk
         split at hk
         · rename_i hke
           exact ⟨e, he, hke.symm⟩
         · exact m.new k hk
       · rw [hput t] at ht
         have hr' := (g2.grow hg).put (dst := o.dst) hv fun t ht => Nat.lt_of_lt_of_le (qgZ hok ho t ht) g3
         rw [ha']
         exact hr' t d ht
       · rw [ha', qia]; exact g3
       · rw [ha', qeu]; exact g4
      unfold wpOpIn
      simp only [ho]
      have hlf : yy ops.size (listed.setIfInBounds e.i true) = fuel := by unfold yy at h0 ⊢; omega
      rcases hp with ⟨hw, hV⟩ | ⟨hw, hp⟩
      · rw [heq] at hw
        rw [qdz hrep hw]
        simp only [Bool.false_eq_true, if_false]
        exact ⟨fun f _ => qkW _ f, ih _ _ _ _ _ _ (next _ w p Go.undef rfl (by rw [hV]; simp only [Rep]) g1 (zM.refl p w)) hlf⟩
      · rw [heq] at hw
        rw [qdz hrep hw]
        simp only [if_true]
        have hst : zt P o (ev e.E) σ fun d' σ' => d' = e.V ∧ σ' = σ := by
         rw [← heq]
         rcases hp with ⟨_, hp⟩ | ⟨_, hp⟩
         · exact hp σ
         · exact hp
        refine qhB (fun a' w' hh => ?_) (fun _ _ _ hh => hh.elim) (hst.y md.rd K p a w g1 (qix hok ho hrep))
        obtain ⟨v, d, σ', p', ha', ⟨rfl, rfl⟩, hv, hi2, hg⟩ := hh
        exact ih _ _ _ _ _ _ (next a' w' p' v ha' hv hi2 hg) hlf
    · -- it is the next one of our plan
      obtain ⟨x, hx, hxi⟩ : ∃ x ∈ pl.alts, x.1 = i := by
       have hno : ∀ j, j < ops.size → (∀ e ∈ done, e.i ≠ j) → (done.map fun e => (e.i, e.c)).any (fun x => x.1 == j) = false := fun j _ hj => by
        rw [List.any_eq_false]
        intro y hy
        obtain ⟨e, he, rfl⟩ := List.mem_map.1 hy
        simpa using hj e he
       have hni : ∀ e ∈ done, e.i ≠ i := fun e he hei => hin ⟨e, he, hei⟩
       rcases hext with ⟨i0, D0, nx0, sb0, rfl, _⟩ | ⟨_, rfl⟩
       · have hcov := (qmP m.ok (i0, D0, nx0) (List.mem_cons_self ..)).1
         have h1 := List.all_eq_true.1 hcov i (by simpa using hi')
         rw [hno i hi' hni, Bool.false_or, Bool.or_eq_true] at h1
         rcases h1 with h1 | h1
         · obtain ⟨k, hk, hki⟩ := List.any_eq_true.1 h1
           obtain rfl : k = i := beq_iff_eq.1 hki
           exact qlW hk
         · exfalso
           obtain ⟨j, hj, hb⟩ := List.any_eq_true.1 h1
           have hj : j < ops.size := by simpa using hj
           rw [Bool.and_eq_true, Bool.not_eq_true'] at hb
           obtain ⟨e, he, hej⟩ := m.new j (hmask i o ho hdeps j hj hb.2)
           have := List.any_eq_false.1 hb.1 (e.i, e.c) (List.mem_map_of_mem he)
           simp [hej] at this
       · exfalso
         obtain ⟨y, hy, hyi⟩ := List.any_eq_true.1 (List.all_eq_true.1 hI1 i (by simpa using hi'))
         rw [List.append_nil] at hy
         obtain ⟨e, he, rfl⟩ := List.mem_map.1 hy
         exact hni e he (beq_iff_eq.1 hyi)
      obtain ⟨i0, Dq, nx⟩ := x
      simp only at hxi
      subst hxi
      obtain ⟨_, hDq, hokn⟩ := qmP m.ok _ hx
      simp only at hDq hokn
      have hrun := qoe m.rest _ hx
      simp only at hrun
      clear hP hI1 hI2 hnd hext
      obtain ⟨ext, hI, hP, _⟩ := qlt hokn
      simp only [y7, Bool.and_eq_true, decide_eq_true_eq] at hI
      obtain ⟨⟨hI1, hI2⟩, hnd⟩ := hI
      have hunl : ∀ x ∈ done, Tof listed x.i = false → x.c.isW = false := fun x hx hf => by
       obtain ⟨u1, u2, hu⟩ := List.append_of_mem hx
       exact ((m.chain u1 x u2 hu).2.2 hf).2
      have hpair : ∀ x ∈ done, Tof listed x.i = false → z7 ops M (x.i, x.c) (i0, .w) = true := fun x hx hf => by
       obtain ⟨u1, u2, hu⟩ := List.append_of_mem hx
       have : yl ops M ((u1.map fun e => (e.i, e.c)) ++ (x.i, x.c) :: ((u2.map fun e => (e.i, e.c)) ++ (i0, .w) :: (Dq ++ ext))) = true := by
        rw [← hP, hu]; simp
       exact qfx this (hunl x hx hf) (by simp)
      have hmemlt : ∀ x ∈ done, x.i < ops.size ∧ ops[x.i]? = some x.o := fun x hx => by
       obtain ⟨u1, u2, hu⟩ := List.append_of_mem hx
       have := (m.chain u1 x u2 hu).2.1
       exact ⟨(Array.getElem?_eq_some_iff.1 this).1, this⟩
      have hne : ∀ x ∈ done, x.i ≠ i0 := fun x hx hxe => hin ⟨x, hx, hxe⟩
      have hlook : ∀ t ∈ o.looksAt ops, lk (zG (Tof listed) env0 done) t = lk (yk env0 done) t := fun t ht =>
       qi5 (fun x hx hd => by
        cases hf : Tof listed x.i with
        | true => rfl
        | false =>
         have := (before (x.i, x.c) (i0, .w) (hmemlt x hx).1 (hpair x hx hf) rfl hf).2.2
         have h5 := apartL this (hmemlt x hx).2 ho
         exact absurd ht ((Oper.apart_spec h5).1 t hd)) rfl
      have hrep : ∀ t ∈ o.looksAt ops, ∀ d, lk (yk env0 done) t = some d → Rep p w d (a.tmps.getD t Go.undef) := fun t ht d hd => g2 t d (by rw [hlook t ht]; exact hd)
      have next : ∀ (a' : Act) (w' : World) (p' : Addr → Prop) (v : Value) (V : D) (σ' : St), a' = a.put o.dst v → Rep p' w' V v → Inv K p' σ' w' → zM p w p' w' → Run P ops NX (zaF P ops Q nx true) Dq ((yk env0 done).put o.dst V) σ' →
       ∃ done', MidP P ops Q K n md M env0 done' nx (listed.setIfInBounds i0 true) σ' a' w' := fun a' w' p' v V σ' ha' hv hi2 hg hrun => by
       obtain ⟨new, h1, h2, h3⟩ := zaT hDq hrun
       have heA : yk env0 (done ++ [⟨i0, .w, o, yk env0 done, V⟩]) = (yk env0 done).put o.dst V := by simp [zG]
       have hnd' : (done.map (fun e => e.i) ++ i0 :: (new.map (fun e => e.i) ++ ext.map (·.1))).Nodup := by
        have := hnd
        rw [h1] at this
        simpa [List.map_map, Function.comp_def] using this
       have hnd2 := List.nodup_append.1 hnd'
       have hnd3 := List.nodup_cons.1 hnd2.2.1
       have hnewf : ∀ x ∈ new, Tof (listed.setIfInBounds i0 true) x.i = false := fun x hx => by
        have hxi : x.i ≠ i0 := fun e => hnd3.1 (by rw [← e]; exact List.mem_append_left _ (List.mem_map_of_mem hx))
        rw [qcC hs, if_neg hxi]
        cases hT2 : Tof listed x.i with
        | false => rfl
        | true =>
         obtain ⟨e, he, hei⟩ := m.new x.i hT2
         exact absurd hei (hnd2.2.2 e.i (List.mem_map_of_mem he) x.i (List.mem_cons_of_mem _ (List.mem_append_left _ (List.mem_map_of_mem hx))))
       refine ⟨done ++ ⟨i0, .w, o, yk env0 done, V⟩ :: new, ⟨by have := hokn; rw [h1] at this; simpa using this, fun u1 x u2 hu => ?_, ?_, fun k hk => ?_, hdown, by simpa using m.size, ⟨p', hi2, fun t d ht => ?_, ?_, ?_⟩⟩⟩
       · -- the chain
         rcases List.append_eq_append_iff.1 hu with ⟨v1, hv1, hv2⟩ | ⟨v1, hv1, hv2⟩
         · cases v1 with
           | nil =>
            simp only [List.nil_append, List.cons.injEq] at hv2
            obtain ⟨rfl, rfl⟩ := hv2
            simp only [List.append_nil] at hv1
            subst hv1
            exact ⟨rfl, ho, fun hf => by rw [qcC hs, if_pos rfl] at hf; cases hf⟩
           | cons y v1 =>
            simp only [List.cons_append, List.cons.injEq] at hv2
            obtain ⟨rfl, hv2⟩ := hv2
            obtain ⟨q1, q2, q3, q4⟩ := h3 v1 x u2 hv2
            refine ⟨?_, q2, fun _ => ⟨q3, q4⟩⟩
            rw [q1, hv1]
            simp [zG]
         · cases v1 with
           | nil =>
            simp only [List.nil_append, List.cons.injEq] at hv2
            obtain ⟨rfl, rfl⟩ := hv2
            simp only [List.append_nil] at hv1
            subst hv1
            exact ⟨rfl, ho, fun hf => by rw [qcC hs, if_pos rfl] at hf; cases hf⟩
           | cons y v1 =>
            simp only [List.cons_append, List.cons.injEq] at hv2
            obtain ⟨rfl, hv2⟩ := hv2
            have hxin : x ∈ done := by rw [hv1]; simp
            obtain ⟨q1, q2, q3⟩ := m.chain u1 x v1 hv1
            refine ⟨q1, q2, fun hf => ?_⟩
            rw [qcC hs, if_neg (hne x hxin)] at hf
            obtain ⟨q4, q5⟩ := q3 hf
            refine ⟨?_, q5⟩
            have hnr := (before (x.i, x.c) (i0, .w) (hmemlt x hxin).1 (hpair x hxin hf) rfl hf).2.1
            rcases q4 with q4 | ⟨q4, q6⟩
            · exact .inl q4
            · refine .inr ⟨q4, ?_⟩
              rcases q6 with q6 | ⟨q6, _⟩
              · exact .inl q6
              · exact absurd ⟨q6, rfl⟩ hnr
       · have hee : yk env0 (done ++ (⟨i0, .w, o, yk env0 done, V⟩ : PE) :: new) = yk ((yk env0 done).put o.dst V) new := by
          rw [← heA]
          simp [zG]
         rw [hee]
         exact h2
       · rw [qcC hs] at hk
         split at hk
         · rename_i hke
           exact ⟨⟨i0, .w, o, yk env0 done, V⟩, by simp, hke.symm⟩
         · obtain ⟨e, he, hek⟩ := m.new k hk
           exact ⟨e, List.mem_append_left _ he, hek⟩
       · have hT' : ∀ x ∈ done, Tof (listed.setIfInBounds i0 true) x.i = Tof listed x.i := fun x hx => by rw [qcC hs, if_neg (hne x hx)]
         rw [qgs, qez hT'] at ht
         have hcons : zG (Tof (listed.setIfInBounds i0 true)) (zG (Tof listed) env0 done) (⟨i0, .w, o, yk env0 done, V⟩ :: new) = zG (Tof (listed.setIfInBounds i0 true)) ((zG (Tof listed) env0 done).put o.dst V) new := by simp [zG, qcC hs]
         rw [hcons, qgl (fun x hx hf => by rw [hnewf x hx] at hf; cases hf)] at ht
         have hr' := (g2.grow hg).put (dst := o.dst) hv fun t ht => Nat.lt_of_lt_of_le (qgZ hok ho t ht) g3
         rw [ha']
         exact hr' t d ht
       · rw [ha', qia]; exact g3
       · rw [ha', qeu]; exact g4
      have hlf : yy ops.size (listed.setIfInBounds i0 true) = fuel := by unfold yy at h0 ⊢; omega
      unfold wpOpIn
      simp only [ho]
      obtain ⟨o', ho', hrun⟩ := hrun
      obtain rfl : o' = o := by rw [ho] at ho'; injection ho' with h; exact h.symm
      have hrun : (yJ ops (yk env0 done) o' = some false ∧ Run P ops NX (zaF P ops Q nx true) Dq ((yk env0 done).put o'.dst .undef) σ) ∨ (yJ ops (yk env0 done) o' = some true ∧ ∃ R, zas P o' (ev (yk env0 done)) σ R ∧ ∀ d σ', R d σ' → Run P ops NX (zaF P ops Q nx true) Dq ((yk env0 done).put o'.dst d) σ') := by
       rcases hrun with hrun | hrun | ⟨_, _, _, _, _, hx, _⟩
       · exact .inl hrun
       · exact .inr hrun
       · exact hx.elim
      rcases hrun with ⟨hw, hk⟩ | ⟨hw, R, hst, hk⟩
      · rw [qdz hrep hw]
        simp only [Bool.false_eq_true, if_false]
        obtain ⟨done', hm⟩ := next _ w p Go.undef .undef σ rfl (by simp only [Rep]) g1 (zM.refl p w) hk
        exact ⟨fun f _ => qkW _ f, ih _ _ _ _ _ _ hm hlf⟩
      · rw [qdz hrep hw]
        simp only [if_true]
        refine qhB (fun a' w' hh => ?_) (fun _ _ _ hh => hh.elim) (hst md.rd K p a w g1 (qix hok ho hrep))
        obtain ⟨v, d, σ', p', ha', hR, hv, hi2, hg⟩ := hh
        obtain ⟨done', hm⟩ := next a' w' p' v d σ' ha' hv hi2 hg (hk d σ' hR)
        exact ih _ _ _ _ _ _ hm hlf
theorem qso {n : Nat} {md : Md} {K : Ctx} {env : Env} {σ : St} (hok : yO ops n = true) (pre : List (Nat × Cls)) (pl : Pl) (hA : za6 ops pre pl = true) (h : Run P ops NX (zaF P ops Q pl true) pre env σ)
 {p : Addr → Prop} {a : Act} {w : World} (hi : Inv K p σ w) (hr : zK p w env a) (hn : n ≤ a.tmps.size) (hd : a.defers = md.marks) :
 wpAnyIn (fw md.rd) 0 P .any ops (zaX P K n md NX Q) ops.size (Array.replicate ops.size false) a w := by
 simp only [za6, Bool.and_eq_true] at hA
 obtain ⟨⟨⟨hM, hL⟩, hq⟩, hP⟩ := hA
 obtain ⟨new, h1, h2, h3⟩ := zaT (fun x hx => by simpa using List.all_eq_true.1 hq x hx) h
 have h0 : ∀ i, Tof (Array.replicate ops.size false) i = false := fun i => by
  unfold Tof
  rw [Array.getD_eq_getD_getElem?, Array.getElem?_replicate]
  split <;> rfl
 have hfuel : yy ops.size (Array.replicate ops.size false) = ops.size := by
  unfold yy left
  rw [List.filter_eq_self.2 fun x _ => by rw [h0]; rfl]
  simp
 refine qra (P := P) (Q := Q) (K := K) (n := n) hok hM hL _ pl new _ σ a w ⟨by rw [← h1]; exact hP, fun d1 e d2 hh => ?_, h2, fun k hk => ?_, fun k' o _ hk => ?_, by simp, ⟨p, hi, ?_, hn, hd⟩⟩ hfuel
 · obtain ⟨q1, q2, q3, q4⟩ := h3 d1 e d2 hh
   exact ⟨q1, q2, fun _ => ⟨q3, q4⟩⟩
 · rw [h0] at hk; cases hk
 · rw [h0] at hk; cases hk
 · have : zG (Tof (Array.replicate ops.size false)) env new = env := by
    have : ∀ (m : List PE), zG (Tof (Array.replicate ops.size false)) env m = env := by
     intro m
     induction m with
     | nil => rfl
     | cons x m ih => simp only [zG, List.foldl_cons, h0, Bool.false_eq_true, if_false] at ih ⊢; exact ih
    exact this new
   rw [this]
   exact hr
theorem qlh {m : Md} {f : FuncId} {fn : Func} {K : Ctx} {R : D → St → Prop} {k : List Item} {env : Env} {σ : St} {id : Nat} {l : List Oper} (hm : P.follows .mixedOrders = true) (hok : yO l.toArray fn.ntmps = true) (pre : List (Nat × Cls)) (pl : Pl) (hA : za6 l.toArray pre pl = true) (J : Env → St → Prop)
 (h : Run P l.toArray NX (zaF P l.toArray J pl true) pre env σ) (hJ : ∀ e s, J e s → zg m P f fn K R k e s) : zg m P f fn K R (.code (.region id l.toArray true) :: k) env σ :=
 qiQ (Q := J) (X := NX) (fun p a w hi hr hn hd => wpIn_region_any hm (qso (md := m) (P := P) (Q := J) (K := K) (n := fn.ntmps) hok pre pl hA h hi.drew (hr.grow (qeQ p w)) hn hd)) (fun _ _ _ h => h.elim) hJ
end
noncomputable def qbk (k : Option (Bool)) (n_a1 : Int) : List Int → Option (Bool)
 | [] =>
 k
 | q_2 :: rest =>
 (bif (q_2 == n_a1) then
 some (true)
 else
 (qbk k n_a1 rest))
noncomputable def qdu (l_a0 : (List Int)) (n_a1 : Int) : Option (Bool) :=
 (qbk (some (false)) n_a1 l_a0)
set_option maxHeartbeats 1000000 in
theorem qhM (l_a0 : (List Int)) (n_a1 : Int) (res : Bool) (hr : qdu l_a0 n_a1 = some res) : zi Tryz.prog 64 [.lst (l_a0.map (D.int .i64)), .int .i64 n_a1] (.bool res) := by
 unfold qdu at hr
 refine q7 [(0, .lst (l_a0.map (D.int .i64))), (1, .int .i64 n_a1)] Tryz.func64 rfl rfl fun K hK => (qk (gr [.d] (rc rfl (qg (qk (qk (gr [.d] (rc rfl (qg ?_)))))))))
 obtain ⟨kk0, hkk0, hr⟩ := exK (fun k => qbk k n_a1 l_a0) hr
 refine qfb 0 rfl (asl rfl) fun hla0 => ?_
 simp only [List.length_map] at hla0
 refine qaW (fun env σ => env = [] ∧ σ = [] ∧ kk0 = some res) ?_ (fun HK0 => ?_)
 ·
  rintro _ _ ⟨rfl, rfl, hr⟩
  rw [hkk0] at hr
  refine qk (gr [.d] (rc rfl (qg ?_)))
  obtain rfl := Option.some.inj hr
  refine qS Tryz.func64 _ (.cons (za rfl (Wk.refl _)) .nil) ?_
  rfl
 ·
  refine qal [(0, .lst (l_a0.map (D.int .i64))), (1, .int .i64 n_a1), (5, .int .i64 ((0 : Nat) : Int))] (sc rfl (sc rfl (sc rfl (Sub.nil _)))) (qcc (fun n env σ => ∃ (i_1 : Nat), (n = l_a0.length - i_1) ∧ (env = [(0, .lst (l_a0.map (D.int .i64))), (1, .int .i64 n_a1), (5, .int .i64 (i_1 : Int))]) ∧ (σ = []) ∧ (i_1 ≤ l_a0.length) ∧ (qbk kk0 n_a1 (l_a0.drop i_1) = some res)) _ ⟨0, rfl, rfl, rfl, Nat.zero_le _, hr⟩ ?_)
  rintro n _ _ ⟨i_1, rfl, rfl, rfl, hi0, hr⟩ IH0
  rcases zh l_a0 i_1 hi0 with ⟨ht0, hd0, he0⟩ | ⟨q_2, ht0, hd0, hq0, hlt0⟩
  ·
   rw [hd0, qbk] at hr
   refine qk (qk (gr [.d, .d, .d, .d] (rf rfl (rf rfl (rd rfl (qbd (f := (D.int .i64)) l_a0 rfl qbb rfl (asl rfl)) (rd rfl (qV rfl rfl rfl rfl) (qg (qaJ 9 false rfl ht0 (qA rfl (qbB rfl (qal [] (Sub.nil _) ?_)))))))))))
   exact HK0 _ _ ⟨rfl, rfl, hr⟩
  ·
   rw [hd0, qbk] at hr
   refine qk (qk (gr [.d, .d, .d, .d] (rf rfl (rf rfl (rd rfl (qbd (f := (D.int .i64)) l_a0 rfl qbb rfl (asl rfl)) (rd rfl (qV rfl rfl rfl rfl) (qg (qaJ 9 true rfl ht0 (qy rfl (qU (qk (qaP (qk ?_)))))))))))))
   refine gr [.d, .d, .d, .d, .d, .d] (rf rfl (rf rfl (rd rfl (qB (f := (D.int .i64)) l_a0 rfl qbb rfl (asl rfl) rfl hq0 (fun _ => rfl) rfl) (rd rfl (qn rfl rfl (by exact qL) rfl) (rf rfl (rd rfl (qV rfl rfl rfl rfl) (qg ?_)))))))
   refine zq 17 rfl hr (fun h17_2 hr => ?_) (fun h17_2 hr => ?_)
   ·
    refine qy rfl (qk (gr [.d] (rc rfl (qg ?_))))
    obtain rfl := Option.some.inj hr
    refine qS Tryz.func64 _ (.cons (za rfl (Wk.refl _)) .nil) ?_
    rfl
   ·
    refine qA rfl (qU (qK (gr [.d, .d, .d] (rf rfl (rd rfl (zZ (r := ((i_1 + 1 : Nat) : Int)) rfl rfl rfl (by simp [iar]) (by omega)) (rc rfl (qg (qal [(0, .lst (l_a0.map (D.int .i64))), (1, .int .i64 n_a1), (5, .int .i64 ((i_1 + 1 : Nat) : Int))] (sc rfl (sc rfl (sc rfl (Sub.nil _)))) ?_))))))))
    exact IH0 _ _ _ (by omega) ⟨(i_1 + 1), rfl, rfl, rfl, (by omega), hr⟩
noncomputable def qco (t_a0 : T) : Option ((List T)) :=
 (bif (t_a0.k == (2 : Int)) then
 some (t_a0.ar)
 else
 some ([]))
set_option maxHeartbeats 1000000 in
theorem qhv (t_a0 : T) (res : (List T)) (hr : qco t_a0 = some res) : zi Tryz.prog 65 [ze t_a0] (.lst (res.map ze)) := by
 unfold qco at hr
 refine q7 [(0, ze t_a0)] Tryz.func65 rfl rfl fun K hK => (qk (gr [.d, .d] (rd rfl (qdH rfl rfl rfl) (rc rfl (qg (qk (qk (gr [.d, .d, .d] (rd rfl (qi rfl qbm rfl (qdd _) (qc9 _) rfl) (rd rfl (qn rfl rfl (by exact qL) rfl) (rd rfl (qV rfl rfl rfl rfl) (qg ?_))))))))))))
 refine zq 5 rfl hr (fun h5_0 hr => ?_) (fun h5_0 hr => ?_)
 ·
  refine qy rfl (qk (gr [.d, .d, .d] (rd rfl (qi rfl qbe rfl (qdO _) (qdQ _) rfl) (rd rfl (qn rfl rfl (by exact qT) rfl) (rc rfl (qg ?_))))))
  obtain rfl := Option.some.inj hr
  refine qS Tryz.func65 _ (.cons (za rfl (Wk.refl _)) .nil) ?_
  rfl
 ·
  refine qA rfl (qU (qk (gr [.d] (rc rfl (qg ?_)))))
  obtain rfl := Option.some.inj hr
  refine qS Tryz.func65 _ (.cons (za rfl (Wk.full _)) .nil) ?_
  rfl
noncomputable def qaD (k : ((List Int)) → Option ((List Int))) (rec : (List Int) → T → Option ((List Int))) : List T → (List Int) → Option ((List Int))
 | [], l_6 =>
 (k l_6)
 | q_10 :: rest, l_6 =>
 ((rec l_6 q_10).bind fun r_11 =>
 (qaD k rec rest r_11))
noncomputable def qbP (k : ((List Int)) → Option ((List Int))) (l_a0 : (List Int)) (t_a1 : T) : Option ((List Int)) :=
 (bif (t_a1.k == (1 : Int)) then
 ((qdu l_a0 t_a1.i).bind fun r_14 =>
 (bif (!r_14) then
 ((zY 8 l_a0 [t_a1.i]).bind fun l_16 =>
 (k l_16))
 else
 (k l_a0)))
 else
 (k l_a0))
noncomputable def qbx : Nat → (List Int) → T → Option ((List Int))
 | 0, _, _ => none
 | fuel + 1, l_a0, t_a1 =>
  (fun (rec : (List Int) → T → Option ((List Int))) =>
   (qbP (fun l_3 =>
   ((qco t_a1).bind fun r_4 =>
   (qaD (fun l_9 =>
   some (l_9)) rec r_4 l_3))) l_a0 t_a1)) (qbx fuel)
set_option maxHeartbeats 1000000 in
theorem qfV (fuel : Nat) (rec : (List Int) → T → Option ((List Int))) (IHR : ∀ (l_a0 : (List Int)) (t_a1 : T) (u_o0 : Value) (res : (List Int)), rec l_a0 t_a1 = some res → Spec Tryz.prog 34 [.own u_o0 (l_a0.map (D.int .i64)), ze t_a1] [.row u_o0 l_a0.length 3 1] (fun d σ => ∃ (u_o0' : Value), d = .own u_o0' (res.map (D.int .i64)) ∧ σ = [.row u_o0' res.length 3 1])) (l_a0 : (List Int)) (t_a1 : T) (u_o0 : Value) (res : (List Int))
 (hr : (qbP (fun l_3 =>
((qco t_a1).bind fun r_4 =>
(qaD (fun l_9 =>
some (l_9)) rec r_4 l_3))) l_a0 t_a1) = some res) : Spec Tryz.prog 34 [.own u_o0 (l_a0.map (D.int .i64)), ze t_a1] [.row u_o0 l_a0.length 3 1] (fun d σ => ∃ (u_o0' : Value), d = .own u_o0' (res.map (D.int .i64)) ∧ σ = [.row u_o0' res.length 3 1]) := by
 refine q7 [(0, .own u_o0 (l_a0.map (D.int .i64))), (1, ze t_a1)] Tryz.func34 rfl rfl fun K hK => (qk (gr [.d, .w] (rd rfl (qdH rfl rfl rfl) (ew rfl (qb8 3 1 (.inl rfl)) ?_))))
 rintro _ _ ⟨u4_0, rfl, rfl⟩
 refine qg ?_
 obtain ⟨kkJ0, hkkJ0, hr⟩ := exK (fun k => qbP k l_a0 t_a1) hr
 refine qrX (fun env σ => ∃ (l_3 : (List Int)) (u_2 : Value), env = [(0, .own u_2 (l_3.map (D.int .i64))), (3, .ptr (ze t_a1))] ∧ σ = [.row u_2 l_3.length 3 1] ∧ kkJ0 l_3 = some res) ?_ (fun HKJ0 => ?_)
 ·
  rintro _ _ ⟨l_3, u_2, rfl, rfl, hr⟩
  rw [hkkJ0] at hr
  refine qk (gr [.d, .d, .d] (rd rfl (qn rfl rfl (by exact qr) (qI _)) ?_))
  obtain ⟨r_4, hr_4, hr⟩ := zb hr
  refine rd rfl (qM rfl qhj (.oc rfl .nil) (qhv _ _ hr_4)) (rc rfl (qg (qk (qk (gr [.d] (rc rfl (qg ?_)))))))
  obtain ⟨kk0, hkk0, hr⟩ := exK (fun k => qaD k rec r_4 l_3) hr
  refine qfb 23 rfl (asl rfl) fun hla0 => ?_
  simp only [List.length_map] at hla0
  refine qaW (fun env σ => ∃ (l_9 : (List Int)) (u_8 : Value), env = [(0, .own u_8 (l_9.map (D.int .i64)))] ∧ σ = [.row u_8 l_9.length 3 1] ∧ kk0 l_9 = some res) ?_ (fun HK0 => ?_)
  ·
   rintro _ _ ⟨l_9, u_8, rfl, rfl, hr⟩
   rw [hkk0] at hr
   refine qk (gr [.d, .d] (rf rfl (rc rfl (qg ?_))))
   obtain rfl := Option.some.inj hr
   refine qS Tryz.func34 _ (.cons (za rfl (Wk.refl _)) .nil) ?_
   exact ⟨u_8, rfl, rfl⟩
  ·
   refine qal [(5, .lst (r_4.map ze)), (0, .own u_2 (l_3.map (D.int .i64))), (6, .int .i64 ((0 : Nat) : Int))] (sc rfl (sc rfl (sc rfl (Sub.nil _)))) (qcc (fun n env σ => ∃ (l_6 : (List Int)) (i_7 : Nat) (u_5 : Value), (n = r_4.length - i_7) ∧ (env = [(5, .lst (r_4.map ze)), (0, .own u_5 (l_6.map (D.int .i64))), (6, .int .i64 (i_7 : Int))]) ∧ (σ = [.row u_5 l_6.length 3 1]) ∧ (i_7 ≤ r_4.length) ∧ (qaD kk0 rec (r_4.drop i_7) l_6 = some res)) _ ⟨l_3, 0, u_2, rfl, rfl, rfl, Nat.zero_le _, hr⟩ ?_)
   rintro n _ _ ⟨l_6, i_7, u_5, rfl, rfl, rfl, hi0, hr⟩ IH0
   rcases zh r_4 i_7 hi0 with ⟨ht0, hd0, he0⟩ | ⟨q_10, ht0, hd0, hq0, hlt0⟩
   ·
    rw [hd0, qaD] at hr
    refine qk (qk (gr [.d, .d, .d, .d] (rf rfl (rf rfl (rd rfl (qbd (f := ze) r_4 rfl qC rfl (asl rfl)) (rd rfl (qV rfl rfl rfl rfl) (qg (qaJ 27 false rfl ht0 (qA rfl (qbB rfl (qal [(0, .own u_5 (l_6.map (D.int .i64)))] (sc rfl (Sub.nil _)) ?_)))))))))))
    exact HK0 _ _ ⟨l_6, u_5, rfl, rfl, hr⟩
   ·
    rw [hd0, qaD] at hr
    refine qk (qk (gr [.d, .d, .d, .d] (rf rfl (rf rfl (rd rfl (qbd (f := ze) r_4 rfl qC rfl (asl rfl)) (rd rfl (qV rfl rfl rfl rfl) (qg (qaJ 27 true rfl ht0 (qy rfl (qU (qk (qaP (gr [.d, .d, .d, .d, .d, .w, .d] ?_)))))))))))))
    refine rf rfl (rf rfl (rf rfl (rd rfl (qB (f := ze) r_4 rfl qC rfl (asl rfl) rfl hq0 qI rfl) (rd rfl (qn rfl rfl (by exact qr) (qI _)) ?_))))
    obtain ⟨r_11, hr_11, hr⟩ := zb hr
    refine ew rfl (qb1 _ rfl qd4 (.oc rfl (.oc rfl .nil)) (by exact (pf0 _)) (IHR _ _ _ _ hr_11)) ?_
    rintro _ _ ⟨_, ⟨u35_11, rfl, rfl⟩, rfl⟩
    refine zT ((.row u35_11 r_11.length 3 1) :: _) rfl (rc rfl (qg (qK (gr [.d, .d, .d] (rf rfl (rd rfl (zZ (r := ((i_7 + 1 : Nat) : Int)) rfl rfl rfl (by simp [iar]) (by omega)) (rc rfl (qg (qal [(5, .lst (r_4.map ze)), (0, .own u35_11 (r_11.map (D.int .i64))), (6, .int .i64 ((i_7 + 1 : Nat) : Int))] (sc rfl (sc rfl (sc rfl (Sub.nil _)))) ?_)))))))))
    exact IH0 _ _ _ (by omega) ⟨r_11, (i_7 + 1), u35_11, rfl, rfl, rfl, (by omega), hr⟩
 ·
  unfold qbP at hr
  refine qk (gr [.d, .d, .d, .d, .d, .d, .d, .d, .d, .d] (rd rfl (qi rfl qbm rfl (qdd _) (qc9 _) rfl) (rd rfl (qn rfl rfl (by exact qL) rfl) (rd rfl (qV rfl rfl rfl rfl) (rf rfl ?_)))))
  refine zJ 10 rfl hr (fun h10_12 hr => ?_) (fun h10_12 hr => ?_)
  ·
   refine rf rfl (rd rfl (qi rfl qa1 rfl (qdt _) (qds _) rfl) (rd rfl (qn rfl rfl (by exact qL) rfl) ?_))
   obtain ⟨r_14, hr_14, hr⟩ := zb hr
   refine rd rfl (qM rfl qhK (.cons rfl (Wk.own _ _) (.oc rfl .nil)) (qhM _ _ _ hr_14)) (rd rfl (qdN rfl rfl) (rd rfl (qP rfl rfl rfl) (qg ?_)))
   refine zq 16 rfl hr (fun h16_14 hr => ?_) (fun h16_14 hr => ?_)
   ·
    refine qy rfl (gr [.d, .d, .d, .d, .w, .d] (rf rfl (rd rfl (qi rfl qa1 rfl (qdt _) (qds _) rfl) (rd rfl (qn rfl rfl (by exact qL) rfl) (rd rfl (qgi (f := (D.int .i64)) [.tmp 19] [t_a1.i] rfl qbb rfl rfl (by decide) (by decide) (.oc rfl .nil) (fun _ => rfl) (fun _ => rfl)) ?_)))))
    obtain ⟨l_16, hl_16, hr⟩ := zb hr
    refine ew rfl (qcd (f := (D.int .i64)) l_a0 [t_a1.i] rfl qbb rfl rfl (asl rfl) (pf1 _ _ _) rfl (fun _ => rfl) hl_16) ?_
    rintro _ _ ⟨u21_16, rfl, rfl⟩
    refine rc rfl (qg (qal [(0, .own u21_16 (l_16.map (D.int .i64))), (3, .ptr (ze t_a1))] (sc rfl (sc rfl (Sub.nil _))) (qbf [_] _ (pf0 _) ?_)))
    exact HKJ0 _ _ ⟨l_16, u21_16, rfl, rfl, hr⟩
   ·
    refine qA rfl (qU (qal [(0, .own u_o0 (l_a0.map (D.int .i64))), (3, .ptr (ze t_a1))] (sc rfl (sc rfl (Sub.nil _))) (qbf [_] _ (pf1 _ _ _) ?_)))
    exact HKJ0 _ _ ⟨l_a0, u_o0, rfl, rfl, hr⟩
  ·
   refine rh rfl (rh rfl (rh rfl (rh rfl (rh rfl (rd rfl (qN rfl rfl rfl) (qg (qA rfl (qU (qal [(0, .own u_o0 (l_a0.map (D.int .i64))), (3, .ptr (ze t_a1))] (sc rfl (sc rfl (Sub.nil _))) (qbf [_] _ (pf1 _ _ _) ?_))))))))))
   exact HKJ0 _ _ ⟨l_a0, u_o0, rfl, rfl, hr⟩
theorem qdy : ∀ (fuel : Nat) (l_a0 : (List Int)) (t_a1 : T) (u_o0 : Value) (res : (List Int)), qbx fuel l_a0 t_a1 = some res → Spec Tryz.prog 34 [.own u_o0 (l_a0.map (D.int .i64)), ze t_a1] [.row u_o0 l_a0.length 3 1] (fun d σ => ∃ (u_o0' : Value), d = .own u_o0' (res.map (D.int .i64)) ∧ σ = [.row u_o0' res.length 3 1])
 | 0, _, _, _, _, h => by cases h
 | fuel + 1, l_a0, t_a1, u_o0, res, h => qfV fuel (qbx fuel) (qdy fuel) l_a0 t_a1 u_o0 res h
noncomputable def qcR (fuel : Nat) (t_a0 : T) : Option ((List Int)) :=
 ((qbx fuel [] t_a0).bind fun r_1 =>
 some (r_1))
set_option maxHeartbeats 1000000 in
theorem qhy (fuel : Nat) (t_a0 : T) (res : (List Int)) (hr : qcR fuel t_a0 = some res) : zi Tryz.prog 80 [ze t_a0] (.lst (res.map (D.int .i64))) := by
 unfold qcR at hr
 refine q7 [(0, ze t_a0)] Tryz.func80 rfl rfl fun K hK => (qk (gr [.d, .d] (rd rfl (qdH rfl rfl rfl) (rc rfl (qg (qk (qiY 3 1 (gr [.d, .w, .d] (rd rfl (qn rfl rfl (by exact qr) (qI _)) ?_)))))))))
 obtain ⟨r_1, hr_1, hr⟩ := zb hr
 refine ew rfl (qb1 _ rfl qd4 (.consN (.oc rfl .nil)) (by exact (pf0 _)) (qdy fuel _ _ _ _ hr_1)) ?_
 rintro _ _ ⟨_, ⟨u4_1, rfl, rfl⟩, rfl⟩
 refine zT ((.row u4_1 r_1.length 3 1) :: _) rfl (rc rfl (qg ?_))
 obtain rfl := Option.some.inj hr
 refine qS Tryz.func80 _ (.cons (za rfl (Wk.own _ _)) .nil) ?_
 rfl
noncomputable def qa2 (k : ((List Int)) → Option ((List Int))) (fuel : Nat) : List T → (List Int) → Option ((List Int))
 | [], out_4 =>
 (k out_4)
 | q_8 :: rest, out_4 =>
 ((qbx fuel out_4 q_8).bind fun r_9 =>
 (qa2 k fuel rest r_9))
noncomputable def qcb (fuel : Nat) (l_a0 : (List T)) : Option ((List Int)) :=
 (qa2 (fun out_7 =>
 some (out_7)) fuel l_a0 [])
set_option maxHeartbeats 1000000 in
theorem qeL (fuel : Nat) (l_a0 : (List T)) (res : (List Int)) (hr : qcb fuel l_a0 = some res) : zi Tryz.prog 12 [.lst (l_a0.map ze)] (.lst (res.map (D.int .i64))) := by
 unfold qcb at hr
 refine q7 [(0, .lst (l_a0.map ze))] Tryz.func12 rfl rfl fun K hK => (qk (gr [.w] (ew rfl (qb8 3 1 (.inl rfl)) ?_)))
 rintro _ _ ⟨u2_0, rfl, rfl⟩
 refine qg (qk (gr [.w] (ew rfl (qb8 3 1 (.inl rfl)) ?_)))
 rintro _ _ ⟨u3_1, rfl, rfl⟩
 refine qg (qk (qk (gr [.d] (rc rfl (qg ?_)))))
 obtain ⟨kk0, hkk0, hr⟩ := exK (fun k => qa2 k fuel l_a0 []) hr
 refine qfb 0 rfl (asl rfl) fun hla0 => ?_
 simp only [List.length_map] at hla0
 refine qaW (fun env σ => ∃ (out_7 : (List Int)) (u_6 : Value), env = [(3, .own u_6 (out_7.map (D.int .i64)))] ∧ σ = [.row u_6 out_7.length 3 1] ∧ kk0 out_7 = some res) ?_ (fun HK0 => ?_)
 ·
  rintro _ _ ⟨out_7, u_6, rfl, rfl, hr⟩
  rw [hkk0] at hr
  refine qk (gr [.d, .d] (rf rfl (rc rfl (qg ?_))))
  obtain rfl := Option.some.inj hr
  refine qS Tryz.func12 _ (.cons (za rfl (Wk.own _ _)) .nil) ?_
  rfl
 ·
  refine qal [(0, .lst (l_a0.map ze)), (3, .own u3_1 ([].map (D.int .i64))), (4, .int .i64 ((0 : Nat) : Int))] (sc rfl (sc rfl (sc rfl (Sub.nil _)))) (qbf [_] _ (pf0 _) (qcc (fun n env σ => ∃ (out_4 : (List Int)) (i_5 : Nat) (u_3 : Value), (n = l_a0.length - i_5) ∧ (env = [(0, .lst (l_a0.map ze)), (3, .own u_3 (out_4.map (D.int .i64))), (4, .int .i64 (i_5 : Int))]) ∧ (σ = [.row u_3 out_4.length 3 1]) ∧ (i_5 ≤ l_a0.length) ∧ (qa2 kk0 fuel (l_a0.drop i_5) out_4 = some res)) _ ⟨[], 0, u3_1, rfl, rfl, rfl, Nat.zero_le _, hr⟩ ?_))
  rintro n _ _ ⟨out_4, i_5, u_3, rfl, rfl, rfl, hi0, hr⟩ IH0
  rcases zh l_a0 i_5 hi0 with ⟨ht0, hd0, he0⟩ | ⟨q_8, ht0, hd0, hq0, hlt0⟩
  ·
   rw [hd0, qa2] at hr
   refine qk (qk (gr [.d, .d, .d, .d] (rf rfl (rf rfl (rd rfl (qbd (f := ze) l_a0 rfl qC rfl (asl rfl)) (rd rfl (qV rfl rfl rfl rfl) (qg (qaJ 8 false rfl ht0 (qA rfl (qbB rfl (qal [(3, .own u_3 (out_4.map (D.int .i64)))] (sc rfl (Sub.nil _)) ?_)))))))))))
   exact HK0 _ _ ⟨out_4, u_3, rfl, rfl, hr⟩
  ·
   rw [hd0, qa2] at hr
   refine qk (qk (gr [.d, .d, .d, .d] (rf rfl (rf rfl (rd rfl (qbd (f := ze) l_a0 rfl qC rfl (asl rfl)) (rd rfl (qV rfl rfl rfl rfl) (qg (qaJ 8 true rfl ht0 (qy rfl (qU (qk (qaP (gr [.d, .d, .d, .d, .d, .w, .d] ?_)))))))))))))
   refine rf rfl (rf rfl (rf rfl (rd rfl (qB (f := ze) l_a0 rfl qC rfl (asl rfl) rfl hq0 qI rfl) (rd rfl (qn rfl rfl (by exact qr) (qI _)) ?_))))
   obtain ⟨r_9, hr_9, hr⟩ := zb hr
   refine ew rfl (qb1 _ rfl qd4 (.oc rfl (.oc rfl .nil)) (by exact (pf0 _)) (qdy fuel _ _ _ _ hr_9)) ?_
   rintro _ _ ⟨_, ⟨u16_9, rfl, rfl⟩, rfl⟩
   refine zT ((.row u16_9 r_9.length 3 1) :: _) rfl (rc rfl (qg (qK (gr [.d, .d, .d] (rf rfl (rd rfl (zZ (r := ((i_5 + 1 : Nat) : Int)) rfl rfl rfl (by simp [iar]) (by omega)) (rc rfl (qg (qal [(0, .lst (l_a0.map ze)), (3, .own u16_9 (r_9.map (D.int .i64))), (4, .int .i64 ((i_5 + 1 : Nat) : Int))] (sc rfl (sc rfl (sc rfl (Sub.nil _)))) ?_)))))))))
   exact IH0 _ _ _ (by omega) ⟨r_9, (i_5 + 1), u16_9, rfl, rfl, rfl, (by omega), hr⟩
structure qG where
 f0_Name : ByteArray
 f1_Keep : (List At)
 f2_Remove : (List At)
 f3_Guard : (List Gl)
 f4_Body : (List Gl)
 f5_Vars : Int
def qp (x : qG) : D := .agg [.str x.f0_Name, .lst (x.f1_Keep.map zl), .lst (x.f2_Remove.map zl), .lst (x.f3_Guard.map zk), .lst (x.f4_Body.map zk), .int .i64 x.f5_Vars]
theorem qab (x : qG) : sz (qp x) = 6 := by
 simp only [qp, sz, szs]
theorem qnP : zbb Tryz.prog 3 (.int .i64 0) := ⟨.int .i64 0, by kernel_rfl, fun _ _ => by simp only [Rep]; exact ⟨trivial, rfl⟩⟩
noncomputable def qce (rec : (List T) → (List (Int × Int)) → Option ((List T) × (List (Int × Int)))) (t_a1 : T) (s_0 : (List (Int × Int))) : Option (T × (List (Int × Int))) :=
 (bif (t_a1.k == (1 : Int)) then
 (bif (!((zH s_0 t_a1.i).isSome)) then
 ((zam s_0 t_a1.i (s_0.length : Int)).bind fun mm_5 =>
 some ((T.mk t_a1.k (s_0.length : Int) t_a1.s t_a1.ar), mm_5))
 else
 some ((T.mk t_a1.k ((zH s_0 t_a1.i).getD 0) t_a1.s t_a1.ar), s_0))
 else
 (bif (t_a1.k == (2 : Int)) then
 ((rec t_a1.ar s_0).bind fun r_7 =>
 some ((T.mk t_a1.k t_a1.i t_a1.s r_7.1), r_7.2))
 else
 some ((T.mk t_a1.k t_a1.i t_a1.s t_a1.ar), s_0)))
set_option maxHeartbeats 1000000 in
theorem qfQ (rec : (List T) → (List (Int × Int)) → Option ((List T) × (List (Int × Int)))) (IHR : ∀ (l_a0 : (List T)) (s_0 : (List (Int × Int))) (m_o0 : Nat) (res : (List T) × (List (Int × Int))), rec l_a0 s_0 = some res → Spec Tryz.prog 87 [.lst (l_a0.map ze), .clo (.func 88) [.map m_o0] []] [.map m_o0 (zn (D.int .i64) (D.int .i64) s_0)] (fun d σ => d = .lst (res.1.map ze) ∧ σ = [.map m_o0 (zn (D.int .i64) (D.int .i64) res.2)])) (t_a1 : T) (s_0 : (List (Int × Int))) (m_o0 : Nat) (res : T × (List (Int × Int))) (hr : qce rec t_a1 s_0 = some res) : Spec Tryz.prog 88 [.map m_o0, ze t_a1] [.map m_o0 (zn (D.int .i64) (D.int .i64) s_0)] (fun d σ => d = ze res.1 ∧ σ = [.map m_o0 (zn (D.int .i64) (D.int .i64) res.2)]) := by
 unfold qce at hr
 refine q7 [(0, .map m_o0), (1, ze t_a1)] Tryz.func88 rfl rfl fun K hK => (qk (gr [.w, .w] (ew rfl (qib rfl rfl rfl) ?_)))
 rintro _ _ ⟨b3_0, rfl, rfl⟩
 refine zT [.cell b3_0 (.agg [.int .i64 t_a1.k, .int .i64 t_a1.i, .str t_a1.s, .lst (t_a1.ar.map ze)]), .map m_o0 (zn (D.int .i64) (D.int .i64) s_0)] (by simp only [ze, qcY]) (ew rfl (qY rfl qbc) ?_)
 rintro _ _ ⟨b4_1, rfl, rfl⟩
 refine qg (qk (qk (gr [.d, .r] (rd rfl (qq rfl qbm rfl) (er rfl (qm rfl rfl (.tail _ (.head _)) rfl rfl (by exact qL) rfl) (qg (qaP (qk (gr [.d, .d] (rd rfl (qV rfl rfl rfl rfl) (rc rfl (qg ?_))))))))))))
 refine zq 9 rfl hr (fun h9_2 hr => ?_) (fun h9_2 hr => ?_)
 ·
  refine qy rfl (qk (gr [.d, .d, .r, .r, .d, .d, .d, .d, .d] (rf rfl (rd rfl (qq rfl qa1 rfl) (er rfl (qm rfl rfl (.tail _ (.head _)) rfl rfl (by exact qL) rfl) (er rfl (qmI (key := (D.int .i64)) (g := (D.int .i64)) s_0 t_a1.i 0 rfl Tryz.underlying87 (yM Tryz.underlying3) qnP rfl rfl (.tail _ (.tail _ (.head _)))) (rf rfl (rd rfl (qbi rfl rfl rfl) (rd rfl (qbi rfl rfl rfl) (rc rfl (rc rfl (qg (qk ?_)))))))))))))
  refine qk (gr [.d, .d] (rf rfl (rd rfl (qdN rfl rfl) (qg ?_))))
  refine zq 19 rfl hr (fun h19_3 hr => ?_) (fun h19_3 hr => ?_)
  ·
   refine qy rfl (qk (gr [.d, .r, .d] (rf rfl (er rfl (qn3 (key := (D.int .i64)) (g := (D.int .i64)) s_0 rfl Tryz.underlying87 rfl (.tail _ (.tail _ (.head _)))) (rc rfl (qg (gr [.d, .d, .r, .d, .w] (rf rfl (rd rfl (qq rfl qa1 rfl) (er rfl (qm rfl rfl (.tail _ (.head _)) rfl rfl (by exact qL) rfl) (rf rfl ?_)))))))))))
   obtain ⟨mm_5, hmm_5, hr⟩ := zb hr
   refine eqR rfl (qhz (key := (D.int .i64)) (g := (D.int .i64)) s_0 t_a1.i (s_0.length : Int) rfl Tryz.underlying87 (yM Tryz.underlying3) rfl rfl rfl (Wk.refl _) (pf2 _ _ _ _) hmm_5) (qg (gr [.d, .d, .w] (rf rfl (rd rfl (qq rfl qa1 rfl) (eqR rfl (qaQ _ rfl rfl rfl (Wk.refl _) (pf2 _ _ _ _) rfl rfl (by exact qL) rfl rfl rfl) (qg (qK (qk (gr [.r, .w] (er rfl (qm rfl rfl (.head _) rfl rfl (by exact qr) rfl) (eqR rfl (qt _ rfl rfl rfl (Wk.refl _) (pf2 _ _ _ _) (by exact qr) rfl rfl rfl) (qg (qbS 4 b4_1 rfl (pf0 _) ?_)))))))))))))
   refine qbf [_] _ (pf1 _ _ _) ?_
   obtain rfl := Option.some.inj hr
   refine qS Tryz.func88 _ (.cons (yX rfl (by exact qr) rfl (Wk.refl _)) .nil) ?_
   exact ⟨(by first | rfl | (show _ = D.agg (fsT _); rw [qcY] <;> rfl)), rfl⟩
  ·
   refine qA rfl (qU (gr [.d, .d, .w] (rf rfl (rd rfl (qq rfl qa1 rfl) (eqR rfl (qaQ _ rfl rfl rfl (Wk.refl _) (pf1 _ _ _) rfl rfl (by exact qL) rfl rfl rfl) (qg (qK (qk (gr [.r, .w] (er rfl (qm rfl rfl (.head _) rfl rfl (by exact qr) rfl) (eqR rfl (qt _ rfl rfl rfl (Wk.refl _) (pf1 _ _ _) (by exact qr) rfl rfl rfl) (qg (qbS 4 b4_1 rfl (pf0 _) ?_)))))))))))))
   refine qbf [_] _ (pf1 _ _ _) ?_
   obtain rfl := Option.some.inj hr
   refine qS Tryz.func88 _ (.cons (yX rfl (by exact qr) rfl (Wk.refl _)) .nil) ?_
   exact ⟨(by first | rfl | (show _ = D.agg (fsT _); rw [qcY] <;> rfl)), rfl⟩
 ·
  refine qA rfl (qk (gr [.d, .d] (rd rfl (qV rfl rfl rfl rfl) (rc rfl (qg ?_)))))
  refine zq 28 rfl hr (fun h28_5 hr => ?_) (fun h28_5 hr => ?_)
  ·
   refine qy rfl (gr [.d, .r, .d, .d, .w, .d, .w] (rd rfl (qq rfl qbe rfl) (er rfl (qm rfl rfl (.tail _ (.head _)) rfl rfl (by exact qT) rfl) (rf rfl (rd rfl (qdU rfl rfl rfl) ?_)))))
   obtain ⟨r_7, hr_7, hr⟩ := zb hr
   refine ew rfl (qb1 _ rfl qdG (.oc rfl (.oc rfl .nil)) (by exact (pf2 _ _ _ _)) (IHR _ _ _ _ hr_7)) ?_
   rintro _ _ ⟨_, ⟨rfl, rfl⟩, rfl⟩
   refine zT ((.map m_o0 (zn (D.int .i64) (D.int .i64) r_7.2)) :: _) rfl (rd rfl (qq rfl qbe rfl) (eqR rfl (qaQ _ rfl rfl rfl (Wk.refl _) (pf2 _ _ _ _) rfl rfl (by exact qT) rfl rfl rfl) (qg (qK (qk (gr [.r, .w] (er rfl (qm rfl rfl (.head _) rfl rfl (by exact qr) rfl) (eqR rfl (qt _ rfl rfl rfl (Wk.refl _) (pf2 _ _ _ _) (by exact qr) rfl rfl rfl) (qg (qbS 4 b4_1 rfl (pf0 _) (qbf [_] _ (pf1 _ _ _) ?_)))))))))))
   obtain rfl := Option.some.inj hr
   refine qS Tryz.func88 _ (.cons (yX rfl (by exact qr) rfl (Wk.refl _)) .nil) ?_
   exact ⟨(by first | rfl | (show _ = D.agg (fsT _); rw [qcY] <;> rfl)), rfl⟩
  ·
   refine qA rfl (qU (qK (qk (gr [.r, .w] (er rfl (qm rfl rfl (.tail _ (.head _)) rfl rfl (by exact qr) rfl) (eqR rfl (qt _ rfl rfl rfl (Wk.refl _) (pf0 _) (by exact qr) rfl rfl rfl) (qg (qbS 4 b4_1 rfl (pf0 _) (qbf [_] _ (pf1 _ _ _) ?_)))))))))
   obtain rfl := Option.some.inj hr
   refine qS Tryz.func88 _ (.cons (yX rfl (by exact qr) rfl (Wk.refl _)) .nil) ?_
   exact ⟨(by first | rfl | (show _ = D.agg (fsT _); rw [qcY] <;> rfl)), rfl⟩
noncomputable def qbv (k : ((List T)) → ((List (Int × Int))) → Option ((List T) × (List (Int × Int)))) (rec : (List T) → (List (Int × Int)) → Option ((List T) × (List (Int × Int)))) : List T → (List T) → (List (Int × Int)) → Option ((List T) × (List (Int × Int)))
 | [], out_4, mm_6 =>
 (k out_4 mm_6)
 | q_10 :: rest, out_4, mm_6 =>
 ((qce rec q_10 mm_6).bind fun r_12 =>
 ((zY 56 out_4 [r_12.1]).bind fun l_13 =>
 (qbv k rec rest l_13 r_12.2)))
noncomputable def qcD : Nat → (List T) → (List (Int × Int)) → Option ((List T) × (List (Int × Int)))
 | 0, _, _ => none
 | fuel + 1, l_a0, s_0 =>
  (fun (rec : (List T) → (List (Int × Int)) → Option ((List T) × (List (Int × Int)))) =>
   (qbv (fun out_8 mm_9 =>
   some (out_8, mm_9)) rec l_a0 [] s_0)) (qcD fuel)
set_option maxHeartbeats 1000000 in
theorem qij (fuel : Nat) (rec : (List T) → (List (Int × Int)) → Option ((List T) × (List (Int × Int)))) (IHR : ∀ (l_a0 : (List T)) (s_0 : (List (Int × Int))) (m_o0 : Nat) (res : (List T) × (List (Int × Int))), rec l_a0 s_0 = some res → Spec Tryz.prog 87 [.lst (l_a0.map ze), .clo (.func 88) [.map m_o0] []] [.map m_o0 (zn (D.int .i64) (D.int .i64) s_0)] (fun d σ => d = .lst (res.1.map ze) ∧ σ = [.map m_o0 (zn (D.int .i64) (D.int .i64) res.2)])) (l_a0 : (List T)) (s_0 : (List (Int × Int))) (m_o0 : Nat) (res : (List T) × (List (Int × Int)))
 (hr : (qbv (fun out_8 mm_9 =>
some (out_8, mm_9)) rec l_a0 [] s_0) = some res) : Spec Tryz.prog 87 [.lst (l_a0.map ze), .clo (.func 88) [.map m_o0] []] [.map m_o0 (zn (D.int .i64) (D.int .i64) s_0)] (fun d σ => d = .lst (res.1.map ze) ∧ σ = [.map m_o0 (zn (D.int .i64) (D.int .i64) res.2)]) := by
 refine q7 [(0, .lst (l_a0.map ze)), (1, .clo (.func 88) [.map m_o0] [])] Tryz.func87 rfl rfl fun K hK => (qk (gr [.w] (ew rfl (qb8 47 4 (.inl rfl)) ?_)))
 rintro _ _ ⟨u4_0, rfl, rfl⟩
 refine qg (qk (gr [.w] (ew rfl (qb8 47 4 (.inl rfl)) ?_)))
 rintro _ _ ⟨u5_1, rfl, rfl⟩
 refine qg (qk (qk (gr [.d, .d, .d] (rf rfl (rd rfl (qbd (f := ze) l_a0 rfl qC rfl (asl rfl)) (rf rfl (qg ?_)))))))
 obtain ⟨kk0, hkk0, hr⟩ := exK (fun k => qbv k rec l_a0 [] s_0) hr
 refine qfb 0 rfl (asl rfl) fun hla0 => ?_
 simp only [List.length_map] at hla0
 refine qaW (fun env σ => ∃ (out_8 : (List T)) (mm_9 : (List (Int × Int))) (u_7 : Value), env = [(5, .own u_7 (out_8.map ze))] ∧ σ = [.row u_7 out_8.length 47 4, .map m_o0 (zn (D.int .i64) (D.int .i64) mm_9)] ∧ kk0 out_8 mm_9 = some res) ?_ (fun HK0 => ?_)
 ·
  rintro _ _ ⟨out_8, mm_9, u_7, rfl, rfl, hr⟩
  rw [hkk0] at hr
  refine qk (gr [.d, .d] (rf rfl (rc rfl (qg (qbf [_] _ (pf1 _ _ _) ?_)))))
  obtain rfl := Option.some.inj hr
  refine qS Tryz.func87 _ (.cons (za rfl (Wk.own _ _)) .nil) ?_
  exact ⟨rfl, rfl⟩
 ·
  refine qal [(1, .clo (.func 88) [.map m_o0] []), (8, .lst (l_a0.map ze)), (9, .int .i64 (l_a0.length : Int)), (5, .own u5_1 ([].map ze)), (10, .int .i64 ((0 : Nat) : Int))] (sc rfl (sc rfl (sc rfl (sc rfl (sc rfl (Sub.nil _)))))) (qbf [_, _] _ ((pf0 _).trans (pf2 _ _ _ _)) (qcc (fun n env σ => ∃ (out_4 : (List T)) (i_5 : Nat) (mm_6 : (List (Int × Int))) (u_3 : Value), (n = l_a0.length - i_5) ∧ (env = [(1, .clo (.func 88) [.map m_o0] []), (8, .lst (l_a0.map ze)), (9, .int .i64 (l_a0.length : Int)), (5, .own u_3 (out_4.map ze)), (10, .int .i64 (i_5 : Int))]) ∧ (σ = [.map m_o0 (zn (D.int .i64) (D.int .i64) mm_6), .row u_3 out_4.length 47 4]) ∧ (i_5 ≤ l_a0.length) ∧ (qbv kk0 rec (l_a0.drop i_5) out_4 mm_6 = some res)) _ ⟨[], 0, s_0, u5_1, rfl, rfl, rfl, Nat.zero_le _, hr⟩ ?_))
  rintro n _ _ ⟨out_4, i_5, mm_6, u_3, rfl, rfl, rfl, hi0, hr⟩ IH0
  rcases zh l_a0 i_5 hi0 with ⟨ht0, hd0, he0⟩ | ⟨q_10, ht0, hd0, hq0, hlt0⟩
  ·
   rw [hd0, qbv] at hr
   refine qk (gr [.d] (rd rfl (qV rfl rfl rfl rfl) (qg (qk (qaJ 11 false rfl ht0 (qA rfl (qbB rfl (qal [(5, .own u_3 (out_4.map ze))] (sc rfl (Sub.nil _)) (qbf [_, _] _ ((pf0 _).trans (pf1 _ _ _)) ?_)))))))))
   exact HK0 _ _ ⟨out_4, mm_6, u_3, rfl, rfl, hr⟩
  ·
   rw [hd0, qbv] at hr
   refine qk (gr [.d] (rd rfl (qV rfl rfl rfl rfl) (qg (qk (qaJ 11 true rfl ht0 (qy rfl (qU (qk (qaP (qk (gr [.d, .d, .w, .w] (rd rfl (qB (f := ze) l_a0 rfl qC rfl (asl rfl) rfl hq0 qI rfl) (rd rfl (qn rfl rfl (by exact qr) (qI _)) ?_)))))))))))))
   refine ew rfl (qY rfl qbc) ?_
   rintro _ _ ⟨b7_10, rfl, rfl⟩
   refine eqR rfl (qt _ rfl rfl rfl (Wk.refl _) (pf0 _) (by exact qr) (qI _) rfl rfl) (qg (qbS 7 b7_10 rfl (pf0 _) (gr [.d, .d, .d, .w, .d, .w, .d] (rf rfl (rf rfl (rd rfl (qn rfl rfl (by exact qr) (qI _)) ?_))))))
   obtain ⟨r_12, hr_12, hr⟩ := zb hr
   refine ew rfl (qh1 _ rfl rfl qgN (.oc rfl .nil) rfl (by exact (pf0 _)) (qfQ rec IHR _ _ _ _ hr_12)) ?_
   rintro _ _ ⟨_, ⟨rfl, rfl⟩, rfl⟩
   refine zT ((.map m_o0 (zn (D.int .i64) (D.int .i64) r_12.2)) :: _) rfl (rd rfl (qgi (f := ze) [.tmp 17] [r_12.1] rfl qC rfl rfl (by decide) (by decide) (.oc rfl .nil) qI (fun _ => rfl)) ?_)
   obtain ⟨l_13, hl_13, hr⟩ := zb hr
   refine ew rfl (qcd (f := ze) out_4 [r_12.1] rfl qC rfl rfl (asl rfl) (pf1 _ _ _) rfl qI hl_13) ?_
   rintro _ _ ⟨u19_13, rfl, rfl⟩
   refine rc rfl (qg (qK (gr [.d, .d] (rd rfl (zZ (r := ((i_5 + 1 : Nat) : Int)) rfl rfl rfl (by simp [iar]) (by omega)) (rf rfl (qg (qal [(1, .clo (.func 88) [.map m_o0] []), (8, .lst (l_a0.map ze)), (9, .int .i64 (l_a0.length : Int)), (5, .own u19_13 (l_13.map ze)), (10, .int .i64 ((i_5 + 1 : Nat) : Int))] (sc rfl (sc rfl (sc rfl (sc rfl (sc rfl (Sub.nil _)))))) (qbf [_, _] _ ((pf0 _).trans (pf1 _ _ _)) ?_))))))))
   exact IH0 _ _ _ (by omega) ⟨l_13, (i_5 + 1), r_12.2, u19_13, rfl, rfl, rfl, (by omega), hr⟩
theorem qeV : ∀ (fuel : Nat) (l_a0 : (List T)) (s_0 : (List (Int × Int))) (m_o0 : Nat) (res : (List T) × (List (Int × Int))), qcD fuel l_a0 s_0 = some res → Spec Tryz.prog 87 [.lst (l_a0.map ze), .clo (.func 88) [.map m_o0] []] [.map m_o0 (zn (D.int .i64) (D.int .i64) s_0)] (fun d σ => d = .lst (res.1.map ze) ∧ σ = [.map m_o0 (zn (D.int .i64) (D.int .i64) res.2)])
 | 0, _, _, _, _, h => by cases h
 | fuel + 1, l_a0, s_0, m_o0, res, h => qij fuel (qcD fuel) (qeV fuel) l_a0 s_0 m_o0 res h
noncomputable def qcV (fuel : Nat) (a_a1 : At) (s_0 : (List (Int × Int))) : Option (At × (List (Int × Int))) :=
 ((qcD fuel a_a1.ts s_0).bind fun r_3 =>
 some ((⟨a_a1.n, r_3.1⟩ : At), r_3.2))
set_option maxHeartbeats 1000000 in
theorem qga (fuel : Nat) (a_a1 : At) (s_0 : (List (Int × Int))) (m_o0 : Nat) (res : At × (List (Int × Int))) (hr : qcV fuel a_a1 s_0 = some res) : Spec Tryz.prog 61 [.map m_o0, zl a_a1] [.map m_o0 (zn (D.int .i64) (D.int .i64) s_0)] (fun d σ => d = zl res.1 ∧ σ = [.map m_o0 (zn (D.int .i64) (D.int .i64) res.2)]) := by
 unfold qcV at hr
 refine q7 [(0, .map m_o0), (1, zl a_a1)] Tryz.func61 rfl rfl fun K hK => (qk (gr [.w, .w] (ew rfl (qib rfl rfl rfl) ?_)))
 rintro _ _ ⟨b3_0, rfl, rfl⟩
 refine ew rfl (qY rfl qfu) ?_
 rintro _ _ ⟨b4_1, rfl, rfl⟩
 refine qg (qk (gr [.d, .r, .d, .d, .w, .d, .w] (rd rfl (qq rfl qcB rfl) (er rfl (qm rfl rfl (.tail _ (.head _)) rfl rfl (by exact qT) rfl) (rf rfl (rd rfl (qdU rfl rfl rfl) ?_))))))
 obtain ⟨r_3, hr_3, hr⟩ := zb hr
 refine ew rfl (qb1 _ rfl qdG (.oc rfl (.oc rfl .nil)) (by exact (pf2 _ _ _ _)) (qeV fuel _ _ _ _ hr_3)) ?_
 rintro _ _ ⟨_, ⟨rfl, rfl⟩, rfl⟩
 refine zT ((.map m_o0 (zn (D.int .i64) (D.int .i64) r_3.2)) :: _) rfl (rd rfl (qq rfl qcB rfl) (eqR rfl (qaQ _ rfl rfl rfl (Wk.refl _) (pf2 _ _ _ _) rfl rfl (by exact qT) rfl rfl rfl) (qg (qk (gr [.r, .w] (er rfl (qm rfl rfl (.head _) rfl rfl (by exact qbW) rfl) (eqR rfl (qt _ rfl rfl rfl (Wk.refl _) (pf2 _ _ _ _) (by exact qbW) rfl rfl rfl) (qg (qbS 4 b4_1 rfl (pf0 _) (qbf [_] _ (pf1 _ _ _) ?_))))))))))
 obtain rfl := Option.some.inj hr
 refine qS Tryz.func61 _ (.cons (yX rfl (by exact qbW) rfl (Wk.refl _)) .nil) ?_
 exact ⟨rfl, rfl⟩
noncomputable def qbI (k : ((List At)) → ((List (Int × Int))) → Option ((List At) × (List (Int × Int)))) (fuel : Nat) : List At → (List At) → (List (Int × Int)) → Option ((List At) × (List (Int × Int)))
 | [], out_4, mm_6 =>
 (k out_4 mm_6)
 | q_10 :: rest, out_4, mm_6 =>
 ((qcV fuel q_10 mm_6).bind fun r_12 =>
 ((zY 40 out_4 [r_12.1]).bind fun l_13 =>
 (qbI k fuel rest l_13 r_12.2)))
noncomputable def qc4 (fuel : Nat) (l_a0 : (List At)) (s_0 : (List (Int × Int))) : Option ((List At) × (List (Int × Int))) :=
 (qbI (fun out_8 mm_9 =>
 some (out_8, mm_9)) fuel l_a0 [] s_0)
set_option maxHeartbeats 1000000 in
theorem qf3 (fuel : Nat) (l_a0 : (List At)) (s_0 : (List (Int × Int))) (m_o0 : Nat) (res : (List At) × (List (Int × Int))) (hr : qc4 fuel l_a0 s_0 = some res) : Spec Tryz.prog 60 [.lst (l_a0.map zl), .clo (.func 61) [.map m_o0] []] [.map m_o0 (zn (D.int .i64) (D.int .i64) s_0)] (fun d σ => d = .lst (res.1.map zl) ∧ σ = [.map m_o0 (zn (D.int .i64) (D.int .i64) res.2)]) := by
 unfold qc4 at hr
 refine q7 [(0, .lst (l_a0.map zl)), (1, .clo (.func 61) [.map m_o0] [])] Tryz.func60 rfl rfl fun K hK => (qk (gr [.w] (ew rfl (qb8 34 2 (.inl rfl)) ?_)))
 rintro _ _ ⟨u4_0, rfl, rfl⟩
 refine qg (qk (gr [.w] (ew rfl (qb8 34 2 (.inl rfl)) ?_)))
 rintro _ _ ⟨u5_1, rfl, rfl⟩
 refine qg (qk (qk (gr [.d, .d, .d] (rf rfl (rd rfl (qbd (f := zl) l_a0 rfl qO rfl (asl rfl)) (rf rfl (qg ?_)))))))
 obtain ⟨kk0, hkk0, hr⟩ := exK (fun k => qbI k fuel l_a0 [] s_0) hr
 refine qfb 0 rfl (asl rfl) fun hla0 => ?_
 simp only [List.length_map] at hla0
 refine qaW (fun env σ => ∃ (out_8 : (List At)) (mm_9 : (List (Int × Int))) (u_7 : Value), env = [(5, .own u_7 (out_8.map zl))] ∧ σ = [.row u_7 out_8.length 34 2, .map m_o0 (zn (D.int .i64) (D.int .i64) mm_9)] ∧ kk0 out_8 mm_9 = some res) ?_ (fun HK0 => ?_)
 ·
  rintro _ _ ⟨out_8, mm_9, u_7, rfl, rfl, hr⟩
  rw [hkk0] at hr
  refine qk (gr [.d, .d] (rf rfl (rc rfl (qg (qbf [_] _ (pf1 _ _ _) ?_)))))
  obtain rfl := Option.some.inj hr
  refine qS Tryz.func60 _ (.cons (za rfl (Wk.own _ _)) .nil) ?_
  exact ⟨rfl, rfl⟩
 ·
  refine qal [(1, .clo (.func 61) [.map m_o0] []), (8, .lst (l_a0.map zl)), (9, .int .i64 (l_a0.length : Int)), (5, .own u5_1 ([].map zl)), (10, .int .i64 ((0 : Nat) : Int))] (sc rfl (sc rfl (sc rfl (sc rfl (sc rfl (Sub.nil _)))))) (qbf [_, _] _ ((pf0 _).trans (pf2 _ _ _ _)) (qcc (fun n env σ => ∃ (out_4 : (List At)) (i_5 : Nat) (mm_6 : (List (Int × Int))) (u_3 : Value), (n = l_a0.length - i_5) ∧ (env = [(1, .clo (.func 61) [.map m_o0] []), (8, .lst (l_a0.map zl)), (9, .int .i64 (l_a0.length : Int)), (5, .own u_3 (out_4.map zl)), (10, .int .i64 (i_5 : Int))]) ∧ (σ = [.map m_o0 (zn (D.int .i64) (D.int .i64) mm_6), .row u_3 out_4.length 34 2]) ∧ (i_5 ≤ l_a0.length) ∧ (qbI kk0 fuel (l_a0.drop i_5) out_4 mm_6 = some res)) _ ⟨[], 0, s_0, u5_1, rfl, rfl, rfl, Nat.zero_le _, hr⟩ ?_))
  rintro n _ _ ⟨out_4, i_5, mm_6, u_3, rfl, rfl, rfl, hi0, hr⟩ IH0
  rcases zh l_a0 i_5 hi0 with ⟨ht0, hd0, he0⟩ | ⟨q_10, ht0, hd0, hq0, hlt0⟩
  ·
   rw [hd0, qbI] at hr
   refine qk (gr [.d] (rd rfl (qV rfl rfl rfl rfl) (qg (qk (qaJ 11 false rfl ht0 (qA rfl (qbB rfl (qal [(5, .own u_3 (out_4.map zl))] (sc rfl (Sub.nil _)) (qbf [_, _] _ ((pf0 _).trans (pf1 _ _ _)) ?_)))))))))
   exact HK0 _ _ ⟨out_4, mm_6, u_3, rfl, rfl, hr⟩
  ·
   rw [hd0, qbI] at hr
   refine qk (gr [.d] (rd rfl (qV rfl rfl rfl rfl) (qg (qk (qaJ 11 true rfl ht0 (qy rfl (qU (qk (qaP (qk (gr [.d, .d, .w, .w] (rd rfl (qB (f := zl) l_a0 rfl qO rfl (asl rfl) rfl hq0 qb6 rfl) (rd rfl (qn rfl rfl (by exact qbW) (qb6 _)) ?_)))))))))))))
   refine ew rfl (qY rfl qfu) ?_
   rintro _ _ ⟨b7_10, rfl, rfl⟩
   refine eqR rfl (qt _ rfl rfl rfl (Wk.refl _) (pf0 _) (by exact qbW) (qb6 _) rfl rfl) (qg (qbS 7 b7_10 rfl (pf0 _) (gr [.d, .d, .d, .w, .d, .w, .d] (rf rfl (rf rfl (rd rfl (qn rfl rfl (by exact qbW) (qb6 _)) ?_))))))
   obtain ⟨r_12, hr_12, hr⟩ := zb hr
   refine ew rfl (qh1 _ rfl rfl qg1 (.oc rfl .nil) rfl (by exact (pf0 _)) (qga fuel _ _ _ _ hr_12)) ?_
   rintro _ _ ⟨_, ⟨rfl, rfl⟩, rfl⟩
   refine zT ((.map m_o0 (zn (D.int .i64) (D.int .i64) r_12.2)) :: _) rfl (rd rfl (qgi (f := zl) [.tmp 17] [r_12.1] rfl qO rfl rfl (by decide) (by decide) (.oc rfl .nil) qb6 (fun _ => rfl)) ?_)
   obtain ⟨l_13, hl_13, hr⟩ := zb hr
   refine ew rfl (qcd (f := zl) out_4 [r_12.1] rfl qO rfl rfl (asl rfl) (pf1 _ _ _) rfl qb6 hl_13) ?_
   rintro _ _ ⟨u19_13, rfl, rfl⟩
   refine rc rfl (qg (qK (gr [.d, .d] (rd rfl (zZ (r := ((i_5 + 1 : Nat) : Int)) rfl rfl rfl (by simp [iar]) (by omega)) (rf rfl (qg (qal [(1, .clo (.func 61) [.map m_o0] []), (8, .lst (l_a0.map zl)), (9, .int .i64 (l_a0.length : Int)), (5, .own u19_13 (l_13.map zl)), (10, .int .i64 ((i_5 + 1 : Nat) : Int))] (sc rfl (sc rfl (sc rfl (sc rfl (sc rfl (Sub.nil _)))))) (qbf [_, _] _ ((pf0 _).trans (pf1 _ _ _)) ?_))))))))
   exact IH0 _ _ _ (by omega) ⟨l_13, (i_5 + 1), r_12.2, u19_13, rfl, rfl, rfl, (by omega), hr⟩
noncomputable def qcP (fuel : Nat) (g_a1 : Gl) (s_0 : (List (Int × Int))) : Option (Gl × (List (Int × Int))) :=
 ((qcD fuel g_a1.ts s_0).bind fun r_3 =>
 some ((⟨g_a1.op, g_a1.n, r_3.1⟩ : Gl), r_3.2))
set_option maxHeartbeats 1000000 in
theorem qgc (fuel : Nat) (g_a1 : Gl) (s_0 : (List (Int × Int))) (m_o0 : Nat) (res : Gl × (List (Int × Int))) (hr : qcP fuel g_a1 s_0 = some res) : Spec Tryz.prog 63 [.map m_o0, zk g_a1] [.map m_o0 (zn (D.int .i64) (D.int .i64) s_0)] (fun d σ => d = zk res.1 ∧ σ = [.map m_o0 (zn (D.int .i64) (D.int .i64) res.2)]) := by
 unfold qcP at hr
 refine q7 [(0, .map m_o0), (1, zk g_a1)] Tryz.func63 rfl rfl fun K hK => (qk (gr [.w, .w] (ew rfl (qib rfl rfl rfl) ?_)))
 rintro _ _ ⟨b3_0, rfl, rfl⟩
 refine ew rfl (qY rfl qeW) ?_
 rintro _ _ ⟨b4_1, rfl, rfl⟩
 refine qg (qk (gr [.d, .r, .d, .d, .w, .d, .w] (rd rfl (qq rfl qcm rfl) (er rfl (qm rfl rfl (.tail _ (.head _)) rfl rfl (by exact qT) rfl) (rf rfl (rd rfl (qdU rfl rfl rfl) ?_))))))
 obtain ⟨r_3, hr_3, hr⟩ := zb hr
 refine ew rfl (qb1 _ rfl qdG (.oc rfl (.oc rfl .nil)) (by exact (pf2 _ _ _ _)) (qeV fuel _ _ _ _ hr_3)) ?_
 rintro _ _ ⟨_, ⟨rfl, rfl⟩, rfl⟩
 refine zT ((.map m_o0 (zn (D.int .i64) (D.int .i64) r_3.2)) :: _) rfl (rd rfl (qq rfl qcm rfl) (eqR rfl (qaQ _ rfl rfl rfl (Wk.refl _) (pf2 _ _ _ _) rfl rfl (by exact qT) rfl rfl rfl) (qg (qk (gr [.r, .w] (er rfl (qm rfl rfl (.head _) rfl rfl (by exact qbs) rfl) (eqR rfl (qt _ rfl rfl rfl (Wk.refl _) (pf2 _ _ _ _) (by exact qbs) rfl rfl rfl) (qg (qbS 4 b4_1 rfl (pf0 _) (qbf [_] _ (pf1 _ _ _) ?_))))))))))
 obtain rfl := Option.some.inj hr
 refine qS Tryz.func63 _ (.cons (yX rfl (by exact qbs) rfl (Wk.refl _)) .nil) ?_
 exact ⟨rfl, rfl⟩
noncomputable def qbH (k : ((List Gl)) → ((List (Int × Int))) → Option ((List Gl) × (List (Int × Int)))) (fuel : Nat) : List Gl → (List Gl) → (List (Int × Int)) → Option ((List Gl) × (List (Int × Int)))
 | [], out_4, mm_6 =>
 (k out_4 mm_6)
 | q_10 :: rest, out_4, mm_6 =>
 ((qcP fuel q_10 mm_6).bind fun r_12 =>
 ((zY 48 out_4 [r_12.1]).bind fun l_13 =>
 (qbH k fuel rest l_13 r_12.2)))
noncomputable def qc2 (fuel : Nat) (l_a0 : (List Gl)) (s_0 : (List (Int × Int))) : Option ((List Gl) × (List (Int × Int))) :=
 (qbH (fun out_8 mm_9 =>
 some (out_8, mm_9)) fuel l_a0 [] s_0)
set_option maxHeartbeats 1000000 in
theorem qgf (fuel : Nat) (l_a0 : (List Gl)) (s_0 : (List (Int × Int))) (m_o0 : Nat) (res : (List Gl) × (List (Int × Int))) (hr : qc2 fuel l_a0 s_0 = some res) : Spec Tryz.prog 62 [.lst (l_a0.map zk), .clo (.func 63) [.map m_o0] []] [.map m_o0 (zn (D.int .i64) (D.int .i64) s_0)] (fun d σ => d = .lst (res.1.map zk) ∧ σ = [.map m_o0 (zn (D.int .i64) (D.int .i64) res.2)]) := by
 unfold qc2 at hr
 refine q7 [(0, .lst (l_a0.map zk)), (1, .clo (.func 63) [.map m_o0] [])] Tryz.func62 rfl rfl fun K hK => (qk (gr [.w] (ew rfl (qb8 45 3 (.inl rfl)) ?_)))
 rintro _ _ ⟨u4_0, rfl, rfl⟩
 refine qg (qk (gr [.w] (ew rfl (qb8 45 3 (.inl rfl)) ?_)))
 rintro _ _ ⟨u5_1, rfl, rfl⟩
 refine qg (qk (qk (gr [.d, .d, .d] (rf rfl (rd rfl (qbd (f := zk) l_a0 rfl qH rfl (asl rfl)) (rf rfl (qg ?_)))))))
 obtain ⟨kk0, hkk0, hr⟩ := exK (fun k => qbH k fuel l_a0 [] s_0) hr
 refine qfb 0 rfl (asl rfl) fun hla0 => ?_
 simp only [List.length_map] at hla0
 refine qaW (fun env σ => ∃ (out_8 : (List Gl)) (mm_9 : (List (Int × Int))) (u_7 : Value), env = [(5, .own u_7 (out_8.map zk))] ∧ σ = [.row u_7 out_8.length 45 3, .map m_o0 (zn (D.int .i64) (D.int .i64) mm_9)] ∧ kk0 out_8 mm_9 = some res) ?_ (fun HK0 => ?_)
 ·
  rintro _ _ ⟨out_8, mm_9, u_7, rfl, rfl, hr⟩
  rw [hkk0] at hr
  refine qk (gr [.d, .d] (rf rfl (rc rfl (qg (qbf [_] _ (pf1 _ _ _) ?_)))))
  obtain rfl := Option.some.inj hr
  refine qS Tryz.func62 _ (.cons (za rfl (Wk.own _ _)) .nil) ?_
  exact ⟨rfl, rfl⟩
 ·
  refine qal [(1, .clo (.func 63) [.map m_o0] []), (8, .lst (l_a0.map zk)), (9, .int .i64 (l_a0.length : Int)), (5, .own u5_1 ([].map zk)), (10, .int .i64 ((0 : Nat) : Int))] (sc rfl (sc rfl (sc rfl (sc rfl (sc rfl (Sub.nil _)))))) (qbf [_, _] _ ((pf0 _).trans (pf2 _ _ _ _)) (qcc (fun n env σ => ∃ (out_4 : (List Gl)) (i_5 : Nat) (mm_6 : (List (Int × Int))) (u_3 : Value), (n = l_a0.length - i_5) ∧ (env = [(1, .clo (.func 63) [.map m_o0] []), (8, .lst (l_a0.map zk)), (9, .int .i64 (l_a0.length : Int)), (5, .own u_3 (out_4.map zk)), (10, .int .i64 (i_5 : Int))]) ∧ (σ = [.map m_o0 (zn (D.int .i64) (D.int .i64) mm_6), .row u_3 out_4.length 45 3]) ∧ (i_5 ≤ l_a0.length) ∧ (qbH kk0 fuel (l_a0.drop i_5) out_4 mm_6 = some res)) _ ⟨[], 0, s_0, u5_1, rfl, rfl, rfl, Nat.zero_le _, hr⟩ ?_))
  rintro n _ _ ⟨out_4, i_5, mm_6, u_3, rfl, rfl, rfl, hi0, hr⟩ IH0
  rcases zh l_a0 i_5 hi0 with ⟨ht0, hd0, he0⟩ | ⟨q_10, ht0, hd0, hq0, hlt0⟩
  ·
   rw [hd0, qbH] at hr
   refine qk (gr [.d] (rd rfl (qV rfl rfl rfl rfl) (qg (qk (qaJ 11 false rfl ht0 (qA rfl (qbB rfl (qal [(5, .own u_3 (out_4.map zk))] (sc rfl (Sub.nil _)) (qbf [_, _] _ ((pf0 _).trans (pf1 _ _ _)) ?_)))))))))
   exact HK0 _ _ ⟨out_4, mm_6, u_3, rfl, rfl, hr⟩
  ·
   rw [hd0, qbH] at hr
   refine qk (gr [.d] (rd rfl (qV rfl rfl rfl rfl) (qg (qk (qaJ 11 true rfl ht0 (qy rfl (qU (qk (qaP (qk (gr [.d, .d, .w, .w] (rd rfl (qB (f := zk) l_a0 rfl qH rfl (asl rfl) rfl hq0 qbu rfl) (rd rfl (qn rfl rfl (by exact qbs) (qbu _)) ?_)))))))))))))
   refine ew rfl (qY rfl qeW) ?_
   rintro _ _ ⟨b7_10, rfl, rfl⟩
   refine eqR rfl (qt _ rfl rfl rfl (Wk.refl _) (pf0 _) (by exact qbs) (qbu _) rfl rfl) (qg (qbS 7 b7_10 rfl (pf0 _) (gr [.d, .d, .d, .w, .d, .w, .d] (rf rfl (rf rfl (rd rfl (qn rfl rfl (by exact qbs) (qbu _)) ?_))))))
   obtain ⟨r_12, hr_12, hr⟩ := zb hr
   refine ew rfl (qh1 _ rfl rfl qg5 (.oc rfl .nil) rfl (by exact (pf0 _)) (qgc fuel _ _ _ _ hr_12)) ?_
   rintro _ _ ⟨_, ⟨rfl, rfl⟩, rfl⟩
   refine zT ((.map m_o0 (zn (D.int .i64) (D.int .i64) r_12.2)) :: _) rfl (rd rfl (qgi (f := zk) [.tmp 17] [r_12.1] rfl qH rfl rfl (by decide) (by decide) (.oc rfl .nil) qbu (fun _ => rfl)) ?_)
   obtain ⟨l_13, hl_13, hr⟩ := zb hr
   refine ew rfl (qcd (f := zk) out_4 [r_12.1] rfl qH rfl rfl (asl rfl) (pf1 _ _ _) rfl qbu hl_13) ?_
   rintro _ _ ⟨u19_13, rfl, rfl⟩
   refine rc rfl (qg (qK (gr [.d, .d] (rd rfl (zZ (r := ((i_5 + 1 : Nat) : Int)) rfl rfl rfl (by simp [iar]) (by omega)) (rf rfl (qg (qal [(1, .clo (.func 63) [.map m_o0] []), (8, .lst (l_a0.map zk)), (9, .int .i64 (l_a0.length : Int)), (5, .own u19_13 (l_13.map zk)), (10, .int .i64 ((i_5 + 1 : Nat) : Int))] (sc rfl (sc rfl (sc rfl (sc rfl (sc rfl (Sub.nil _)))))) (qbf [_, _] _ ((pf0 _).trans (pf1 _ _ _)) ?_))))))))
   exact IH0 _ _ _ (by omega) ⟨l_13, (i_5 + 1), r_12.2, u19_13, rfl, rfl, rfl, (by omega), hr⟩
noncomputable def qcA (fuel : Nat) (r_a0 : qG) : Option (qG) :=
 ((qc4 fuel r_a0.f1_Keep []).bind fun r_4 =>
 ((qc4 fuel r_a0.f2_Remove r_4.2).bind fun r_5 =>
 ((qc2 fuel r_a0.f3_Guard r_5.2).bind fun r_6 =>
 ((qc2 fuel r_a0.f4_Body r_6.2).bind fun r_7 =>
 some ((⟨r_a0.f0_Name, r_4.1, r_5.1, r_6.1, r_7.1, (r_7.2.length : Int)⟩ : qG))))))
set_option maxHeartbeats 1000000 in
theorem qea (fuel : Nat) (r_a0 : qG) (res : qG) (hr : qcA fuel r_a0 = some res) : zi Tryz.prog 33 [qp r_a0] (qp res) := by
 unfold qcA at hr
 refine q7 [(0, qp r_a0)] Tryz.func33 rfl rfl fun K hK => (qk (gr [.w, .w] (ew rfl (qib rfl rfl rfl) ?_)))
 rintro _ _ ⟨b1_0, rfl, rfl⟩
 refine ew rfl (qY rfl qeS) ?_
 rintro _ _ ⟨b2_1, rfl, rfl⟩
 refine qg (qk (gr [.w, .d] (ew rfl (qi0 (α := Int) (β := Int) (key := (D.int .i64)) (g := (D.int .i64)) rfl) ?_)))
 rintro _ _ ⟨m4_2, rfl, rfl⟩
 refine rc rfl (qg (qk (gr [.d, .r, .d, .d, .w, .d, .w] (rd rfl (qq rfl qat rfl) (er rfl (qm rfl rfl (.tail _ (.tail _ (.head _))) rfl rfl (by exact qw) rfl) (rf rfl (rd rfl (qdU rfl rfl rfl) ?_)))))))
 obtain ⟨r_4, hr_4, hr⟩ := zb hr
 refine ew rfl (qb1 _ rfl qeP (.oc rfl (.oc rfl .nil)) (by exact (pf0 _)) (qf3 fuel _ _ _ _ hr_4)) ?_
 rintro _ _ ⟨_, ⟨rfl, rfl⟩, rfl⟩
 refine zT ((.map m4_2 (zn (D.int .i64) (D.int .i64) r_4.2)) :: _) rfl (rd rfl (qq rfl qat rfl) (eqR rfl (qaQ _ rfl rfl rfl (Wk.refl _) (pf2 _ _ _ _) rfl rfl (by exact qw) rfl rfl rfl) (qg (qk (gr [.d, .r, .d, .d, .w, .d, .w] (rd rfl (qq rfl qas rfl) (er rfl (qm rfl rfl (.head _) rfl rfl (by exact qw) rfl) (rf rfl (rd rfl (qdU rfl rfl rfl) ?_)))))))))
 obtain ⟨r_5, hr_5, hr⟩ := zb hr
 refine ew rfl (qb1 _ rfl qeP (.oc rfl (.oc rfl .nil)) (by exact (pf1 _ _ _)) (qf3 fuel _ _ _ _ hr_5)) ?_
 rintro _ _ ⟨_, ⟨rfl, rfl⟩, rfl⟩
 refine zT ((.map m4_2 (zn (D.int .i64) (D.int .i64) r_5.2)) :: _) rfl (rd rfl (qq rfl qas rfl) (eqR rfl (qaQ _ rfl rfl rfl (Wk.refl _) (pf1 _ _ _) rfl rfl (by exact qw) rfl rfl rfl) (qg (qk (gr [.d, .r, .d, .d, .w, .d, .w] (rd rfl (qq rfl qao rfl) (er rfl (qm rfl rfl (.head _) rfl rfl (by exact qE) rfl) (rf rfl (rd rfl (qdU rfl rfl rfl) ?_)))))))))
 obtain ⟨r_6, hr_6, hr⟩ := zb hr
 refine ew rfl (qb1 _ rfl qeN (.oc rfl (.oc rfl .nil)) (by exact (pf1 _ _ _)) (qgf fuel _ _ _ _ hr_6)) ?_
 rintro _ _ ⟨_, ⟨rfl, rfl⟩, rfl⟩
 refine zT ((.map m4_2 (zn (D.int .i64) (D.int .i64) r_6.2)) :: _) rfl (rd rfl (qq rfl qao rfl) (eqR rfl (qaQ _ rfl rfl rfl (Wk.refl _) (pf1 _ _ _) rfl rfl (by exact qE) rfl rfl rfl) (qg (qk (gr [.d, .r, .d, .d, .w, .d, .w] (rd rfl (qq rfl qcQ rfl) (er rfl (qm rfl rfl (.head _) rfl rfl (by exact qE) rfl) (rf rfl (rd rfl (qdU rfl rfl rfl) ?_)))))))))
 obtain ⟨r_7, hr_7, hr⟩ := zb hr
 refine ew rfl (qb1 _ rfl qeN (.oc rfl (.oc rfl .nil)) (by exact (pf1 _ _ _)) (qgf fuel _ _ _ _ hr_7)) ?_
 rintro _ _ ⟨_, ⟨rfl, rfl⟩, rfl⟩
 refine zT ((.map m4_2 (zn (D.int .i64) (D.int .i64) r_7.2)) :: _) rfl (rd rfl (qq rfl qcQ rfl) (eqR rfl (qaQ _ rfl rfl rfl (Wk.refl _) (pf1 _ _ _) rfl rfl (by exact qE) rfl rfl rfl) (qg (qk (gr [.d, .r, .d, .w] (rf rfl (er rfl (qn3 (key := (D.int .i64)) (g := (D.int .i64)) r_7.2 rfl Tryz.underlying87 rfl (.tail _ (.head _))) (rd rfl (qq rfl qdW rfl) (eqR rfl (qaQ _ rfl rfl rfl (Wk.refl _) (pf0 _) rfl rfl (by exact qL) rfl rfl rfl) (qg (qk (gr [.r, .w] (er rfl (qm rfl rfl (.head _) rfl rfl (by exact qai) rfl) ?_)))))))))))))
 refine eqR rfl (qt _ rfl rfl rfl (Wk.refl _) (pf2 _ _ _ _) (by exact qai) rfl rfl rfl) (qg ?_)
 obtain rfl := Option.some.inj hr
 refine qS Tryz.func33 _ (.cons (z4 rfl (.head _) (by exact qai) rfl (Wk.refl _)) .nil) ?_
 rfl
noncomputable def qbn (k : Option (Bool)) (s2_a1 : (List At)) : List At → Nat → Option (Bool)
 | [], i_2 =>
 k
 | q_3 :: rest, i_2 =>
 ((zw s2_a1 (i_2 : Int)).bind fun q_5 =>
 ((qjd q_3 q_5).bind fun r_7 =>
 (bif (!r_7) then
 some (false)
 else
 (qbn k s2_a1 rest (i_2 + 1)))))
noncomputable def qcZ (s1_a0 : (List At)) (s2_a1 : (List At)) : Option (Bool) :=
 (bif ((s1_a0.length : Int) != (s2_a1.length : Int)) then
 some (false)
 else
 (qbn (some (true)) s2_a1 s1_a0 0))
set_option maxHeartbeats 1000000 in
theorem qhL (s1_a0 : (List At)) (s2_a1 : (List At)) (res : Bool) (hr : qcZ s1_a0 s2_a1 = some res) : zi Tryz.prog 94 [.lst (s1_a0.map zl), .lst (s2_a1.map zl), .clo (.func 95) [] []] (.bool res) := by
 unfold qcZ at hr
 refine q7 [(0, .lst (s1_a0.map zl)), (1, .lst (s2_a1.map zl)), (2, .clo (.func 95) [] [])] Tryz.func94 rfl rfl fun K hK => (qk (gr [.d] (rc rfl (qg (qk (qk (gr [.d, .d, .d, .d, .d] (rf rfl (rd rfl (qbd (f := zl) s1_a0 rfl qO rfl (asl rfl)) (rf rfl (rd rfl (qbd (f := zl) s2_a1 rfl qO rfl (asl rfl)) (rd rfl (qV rfl rfl rfl rfl) (qg ?_)))))))))))))
 refine zq 14 rfl hr (fun h14_0 hr => ?_) (fun h14_0 hr => ?_)
 ·
  refine qy rfl (qk (gr [.d] (rc rfl (qg ?_))))
  obtain rfl := Option.some.inj hr
  refine qS Tryz.func94 _ (.cons (za rfl (Wk.refl _)) .nil) ?_
  rfl
 ·
  refine qA rfl (qU (qk (qk (gr [.d, .d, .d] (rf rfl (rd rfl (qbd (f := zl) s1_a0 rfl qO rfl (asl rfl)) (rf rfl (qg ?_))))))))
  obtain ⟨kk0, hkk0, hr⟩ := exK (fun k => qbn k s2_a1 s1_a0 0) hr
  refine qfb 0 rfl (asl rfl) fun hla0 => ?_
  simp only [List.length_map] at hla0
  refine qaW (fun env σ => env = [] ∧ σ = [] ∧ kk0 = some res) ?_ (fun HK0 => ?_)
  ·
   rintro _ _ ⟨rfl, rfl, hr⟩
   rw [hkk0] at hr
   refine qk (gr [.d] (rc rfl (qg ?_)))
   obtain rfl := Option.some.inj hr
   refine qS Tryz.func94 _ (.cons (za rfl (Wk.refl _)) .nil) ?_
   rfl
  ·
   refine qal [(1, .lst (s2_a1.map zl)), (2, .clo (.func 95) [] []), (15, .lst (s1_a0.map zl)), (16, .int .i64 (s1_a0.length : Int)), (17, .int .i64 ((0 : Nat) : Int))] (sc rfl (sc rfl (sc rfl (sc rfl (sc rfl (Sub.nil _)))))) (qcc (fun n env σ => ∃ (i_2 : Nat), (n = s1_a0.length - i_2) ∧ (env = [(1, .lst (s2_a1.map zl)), (2, .clo (.func 95) [] []), (15, .lst (s1_a0.map zl)), (16, .int .i64 (s1_a0.length : Int)), (17, .int .i64 (i_2 : Int))]) ∧ (σ = []) ∧ (i_2 ≤ s1_a0.length) ∧ (qbn kk0 s2_a1 (s1_a0.drop i_2) i_2 = some res)) _ ⟨0, rfl, rfl, rfl, Nat.zero_le _, hr⟩ ?_)
   rintro n _ _ ⟨i_2, rfl, rfl, rfl, hi0, hr⟩ IH0
   rcases zh s1_a0 i_2 hi0 with ⟨ht0, hd0, he0⟩ | ⟨q_3, ht0, hd0, hq0, hlt0⟩
   ·
    rw [hd0, qbn] at hr
    refine qk (gr [.d] (rd rfl (qV rfl rfl rfl rfl) (qg (qk (qaJ 18 false rfl ht0 (qA rfl (qbB rfl (qal [] (Sub.nil _) ?_))))))))
    exact HK0 _ _ ⟨rfl, rfl, hr⟩
   ·
    rw [hd0, qbn] at hr
    refine qk (gr [.d] (rd rfl (qV rfl rfl rfl rfl) (qg (qk (qaJ 18 true rfl ht0 (qy rfl (qU (qk (qaP (qk (gr [.d, .d, .d, .w, .d, .w] (rf rfl (rd rfl (qB (f := zl) s1_a0 rfl qO rfl (asl rfl) rfl hq0 qb6 rfl) ?_)))))))))))))
    refine rd rfl (qn rfl rfl (by exact qbW) (qb6 _)) (ew rfl (qY rfl qfu) ?_)
    rintro _ _ ⟨b8_3, rfl, rfl⟩
    refine rc rfl (eqR rfl (qt _ rfl rfl rfl (Wk.refl _) (pf0 _) (by exact qbW) (qb6 _) rfl rfl) (qg (qbS 8 b8_3 rfl (pf0 _) (qk (gr [.d, .d, .d, .d, .w, .w] (rf rfl (rf rfl ?_)))))))
    obtain ⟨q_5, hq_5, hr⟩ := zb hr
    refine rd rfl (qB (f := zl) s2_a1 rfl qO rfl (asl rfl) rfl hq_5 qb6 rfl) (rd rfl (qn rfl rfl (by exact qbW) (qb6 _)) (ew rfl (qY rfl qfu) ?_))
    rintro _ _ ⟨b9_5, rfl, rfl⟩
    refine eqR rfl (qt _ rfl rfl rfl (Wk.refl _) (pf0 _) (by exact qbW) (qb6 _) rfl rfl) (qg (qbS 9 b9_5 rfl (pf0 _) (qk (gr [.d, .d, .d, .d, .d] (rf rfl (rd rfl (qn rfl rfl (by exact qbW) (qb6 _)) (rd rfl (qn rfl rfl (by exact qbW) (qb6 _)) ?_)))))))
    obtain ⟨r_7, hr_7, hr⟩ := zb hr
    refine rd rfl (qoi rfl rfl qju (.oc rfl (.oc rfl .nil)) rfl (qjw _ _ _ hr_7)) (rd rfl (qdN rfl rfl) (qg ?_))
    refine zq 30 rfl hr (fun h30_7 hr => ?_) (fun h30_7 hr => ?_)
    ·
     refine qy rfl (qk (gr [.d] (rc rfl (qg ?_))))
     obtain rfl := Option.some.inj hr
     refine qS Tryz.func94 _ (.cons (za rfl (Wk.refl _)) .nil) ?_
     rfl
    ·
     refine qA rfl (qU (qK (gr [.d, .d] (rd rfl (zZ (r := ((i_2 + 1 : Nat) : Int)) rfl rfl rfl (by simp [iar]) (by omega)) (rf rfl (qg (qal [(1, .lst (s2_a1.map zl)), (2, .clo (.func 95) [] []), (15, .lst (s1_a0.map zl)), (16, .int .i64 (s1_a0.length : Int)), (17, .int .i64 ((i_2 + 1 : Nat) : Int))] (sc rfl (sc rfl (sc rfl (sc rfl (sc rfl (Sub.nil _)))))) ?_)))))))
     exact IH0 _ _ _ (by omega) ⟨(i_2 + 1), rfl, rfl, rfl, (by omega), hr⟩
noncomputable def qc5 (a_a0 : (List At)) (b_a1 : (List At)) : Option (Bool) :=
 ((qcZ a_a0 b_a1).bind fun r_1 =>
 some (r_1))
set_option maxHeartbeats 1000000 in
theorem qgb (a_a0 : (List At)) (b_a1 : (List At)) (res : Bool) (hr : qc5 a_a0 b_a1 = some res) : zi Tryz.prog 73 [.lst (a_a0.map zl), .lst (b_a1.map zl)] (.bool res) := by
 unfold qc5 at hr
 refine q7 [(0, .lst (a_a0.map zl)), (1, .lst (b_a1.map zl))] Tryz.func73 rfl rfl fun K hK => (qk (gr [.d] (rc rfl (qg (qk (gr [.d, .d, .d, .d] (rf rfl (rf rfl ?_))))))))
 obtain ⟨r_1, hr_1, hr⟩ := zb hr
 refine rd rfl (qM rfl qdh (.oc rfl (.oc rfl (.oc rfl .nil))) (qhL _ _ _ hr_1)) (rc rfl (qg ?_))
 obtain rfl := Option.some.inj hr
 refine qS Tryz.func73 _ (.cons (za rfl (Wk.refl _)) .nil) ?_
 rfl
noncomputable def qbo (k : Option (Bool)) (s2_a1 : (List Gl)) : List Gl → Nat → Option (Bool)
 | [], i_2 =>
 k
 | q_3 :: rest, i_2 =>
 ((zw s2_a1 (i_2 : Int)).bind fun q_5 =>
 ((qir q_3 q_5).bind fun r_7 =>
 (bif (!r_7) then
 some (false)
 else
 (qbo k s2_a1 rest (i_2 + 1)))))
noncomputable def qc0 (s1_a0 : (List Gl)) (s2_a1 : (List Gl)) : Option (Bool) :=
 (bif ((s1_a0.length : Int) != (s2_a1.length : Int)) then
 some (false)
 else
 (qbo (some (true)) s2_a1 s1_a0 0))
set_option maxHeartbeats 1000000 in
theorem qhP (s1_a0 : (List Gl)) (s2_a1 : (List Gl)) (res : Bool) (hr : qc0 s1_a0 s2_a1 = some res) : zi Tryz.prog 96 [.lst (s1_a0.map zk), .lst (s2_a1.map zk), .clo (.func 97) [] []] (.bool res) := by
 unfold qc0 at hr
 refine q7 [(0, .lst (s1_a0.map zk)), (1, .lst (s2_a1.map zk)), (2, .clo (.func 97) [] [])] Tryz.func96 rfl rfl fun K hK => (qk (gr [.d] (rc rfl (qg (qk (qk (gr [.d, .d, .d, .d, .d] (rf rfl (rd rfl (qbd (f := zk) s1_a0 rfl qH rfl (asl rfl)) (rf rfl (rd rfl (qbd (f := zk) s2_a1 rfl qH rfl (asl rfl)) (rd rfl (qV rfl rfl rfl rfl) (qg ?_)))))))))))))
 refine zq 14 rfl hr (fun h14_0 hr => ?_) (fun h14_0 hr => ?_)
 ·
  refine qy rfl (qk (gr [.d] (rc rfl (qg ?_))))
  obtain rfl := Option.some.inj hr
  refine qS Tryz.func96 _ (.cons (za rfl (Wk.refl _)) .nil) ?_
  rfl
 ·
  refine qA rfl (qU (qk (qk (gr [.d, .d, .d] (rf rfl (rd rfl (qbd (f := zk) s1_a0 rfl qH rfl (asl rfl)) (rf rfl (qg ?_))))))))
  obtain ⟨kk0, hkk0, hr⟩ := exK (fun k => qbo k s2_a1 s1_a0 0) hr
  refine qfb 0 rfl (asl rfl) fun hla0 => ?_
  simp only [List.length_map] at hla0
  refine qaW (fun env σ => env = [] ∧ σ = [] ∧ kk0 = some res) ?_ (fun HK0 => ?_)
  ·
   rintro _ _ ⟨rfl, rfl, hr⟩
   rw [hkk0] at hr
   refine qk (gr [.d] (rc rfl (qg ?_)))
   obtain rfl := Option.some.inj hr
   refine qS Tryz.func96 _ (.cons (za rfl (Wk.refl _)) .nil) ?_
   rfl
  ·
   refine qal [(1, .lst (s2_a1.map zk)), (2, .clo (.func 97) [] []), (15, .lst (s1_a0.map zk)), (16, .int .i64 (s1_a0.length : Int)), (17, .int .i64 ((0 : Nat) : Int))] (sc rfl (sc rfl (sc rfl (sc rfl (sc rfl (Sub.nil _)))))) (qcc (fun n env σ => ∃ (i_2 : Nat), (n = s1_a0.length - i_2) ∧ (env = [(1, .lst (s2_a1.map zk)), (2, .clo (.func 97) [] []), (15, .lst (s1_a0.map zk)), (16, .int .i64 (s1_a0.length : Int)), (17, .int .i64 (i_2 : Int))]) ∧ (σ = []) ∧ (i_2 ≤ s1_a0.length) ∧ (qbo kk0 s2_a1 (s1_a0.drop i_2) i_2 = some res)) _ ⟨0, rfl, rfl, rfl, Nat.zero_le _, hr⟩ ?_)
   rintro n _ _ ⟨i_2, rfl, rfl, rfl, hi0, hr⟩ IH0
   rcases zh s1_a0 i_2 hi0 with ⟨ht0, hd0, he0⟩ | ⟨q_3, ht0, hd0, hq0, hlt0⟩
   ·
    rw [hd0, qbo] at hr
    refine qk (gr [.d] (rd rfl (qV rfl rfl rfl rfl) (qg (qk (qaJ 18 false rfl ht0 (qA rfl (qbB rfl (qal [] (Sub.nil _) ?_))))))))
    exact HK0 _ _ ⟨rfl, rfl, hr⟩
   ·
    rw [hd0, qbo] at hr
    refine qk (gr [.d] (rd rfl (qV rfl rfl rfl rfl) (qg (qk (qaJ 18 true rfl ht0 (qy rfl (qU (qk (qaP (qk (gr [.d, .d, .d, .w, .d, .w] (rf rfl (rd rfl (qB (f := zk) s1_a0 rfl qH rfl (asl rfl) rfl hq0 qbu rfl) ?_)))))))))))))
    refine rd rfl (qn rfl rfl (by exact qbs) (qbu _)) (ew rfl (qY rfl qeW) ?_)
    rintro _ _ ⟨b8_3, rfl, rfl⟩
    refine rc rfl (eqR rfl (qt _ rfl rfl rfl (Wk.refl _) (pf0 _) (by exact qbs) (qbu _) rfl rfl) (qg (qbS 8 b8_3 rfl (pf0 _) (qk (gr [.d, .d, .d, .d, .w, .w] (rf rfl (rf rfl ?_)))))))
    obtain ⟨q_5, hq_5, hr⟩ := zb hr
    refine rd rfl (qB (f := zk) s2_a1 rfl qH rfl (asl rfl) rfl hq_5 qbu rfl) (rd rfl (qn rfl rfl (by exact qbs) (qbu _)) (ew rfl (qY rfl qeW) ?_))
    rintro _ _ ⟨b9_5, rfl, rfl⟩
    refine eqR rfl (qt _ rfl rfl rfl (Wk.refl _) (pf0 _) (by exact qbs) (qbu _) rfl rfl) (qg (qbS 9 b9_5 rfl (pf0 _) (qk (gr [.d, .d, .d, .d, .d] (rf rfl (rd rfl (qn rfl rfl (by exact qbs) (qbu _)) (rd rfl (qn rfl rfl (by exact qbs) (qbu _)) ?_)))))))
    obtain ⟨r_7, hr_7, hr⟩ := zb hr
    refine rd rfl (qoi rfl rfl qjx (.oc rfl (.oc rfl .nil)) rfl (qjz _ _ _ hr_7)) (rd rfl (qdN rfl rfl) (qg ?_))
    refine zq 30 rfl hr (fun h30_7 hr => ?_) (fun h30_7 hr => ?_)
    ·
     refine qy rfl (qk (gr [.d] (rc rfl (qg ?_))))
     obtain rfl := Option.some.inj hr
     refine qS Tryz.func96 _ (.cons (za rfl (Wk.refl _)) .nil) ?_
     rfl
    ·
     refine qA rfl (qU (qK (gr [.d, .d] (rd rfl (zZ (r := ((i_2 + 1 : Nat) : Int)) rfl rfl rfl (by simp [iar]) (by omega)) (rf rfl (qg (qal [(1, .lst (s2_a1.map zk)), (2, .clo (.func 97) [] []), (15, .lst (s1_a0.map zk)), (16, .int .i64 (s1_a0.length : Int)), (17, .int .i64 ((i_2 + 1 : Nat) : Int))] (sc rfl (sc rfl (sc rfl (sc rfl (sc rfl (Sub.nil _)))))) ?_)))))))
     exact IH0 _ _ _ (by omega) ⟨(i_2 + 1), rfl, rfl, rfl, (by omega), hr⟩
noncomputable def qc6 (a_a0 : (List Gl)) (b_a1 : (List Gl)) : Option (Bool) :=
 ((qc0 a_a0 b_a1).bind fun r_1 =>
 some (r_1))
set_option maxHeartbeats 1000000 in
theorem qf4 (a_a0 : (List Gl)) (b_a1 : (List Gl)) (res : Bool) (hr : qc6 a_a0 b_a1 = some res) : zi Tryz.prog 74 [.lst (a_a0.map zk), .lst (b_a1.map zk)] (.bool res) := by
 unfold qc6 at hr
 refine q7 [(0, .lst (a_a0.map zk)), (1, .lst (b_a1.map zk))] Tryz.func74 rfl rfl fun K hK => (qk (gr [.d] (rc rfl (qg (qk (gr [.d, .d, .d, .d] (rf rfl (rf rfl ?_))))))))
 obtain ⟨r_1, hr_1, hr⟩ := zb hr
 refine rd rfl (qM rfl qdi (.oc rfl (.oc rfl (.oc rfl .nil))) (qhP _ _ _ hr_1)) (rc rfl (qg ?_))
 obtain rfl := Option.some.inj hr
 refine qS Tryz.func74 _ (.cons (za rfl (Wk.refl _)) .nil) ?_
 rfl
noncomputable def qeb (a_a0 : qG) (b_a1 : qG) : Option (Bool) :=
 (bif (a_a0.f0_Name.toList == b_a1.f0_Name.toList) then
 (bif (a_a0.f5_Vars == b_a1.f5_Vars) then
 ((qc5 a_a0.f1_Keep b_a1.f1_Keep).bind fun r_3 =>
 (bif r_3 then
 ((qc5 a_a0.f2_Remove b_a1.f2_Remove).bind fun r_5 =>
 (bif r_5 then
 ((qc6 a_a0.f3_Guard b_a1.f3_Guard).bind fun r_7 =>
 (bif r_7 then
 ((qc6 a_a0.f4_Body b_a1.f4_Body).bind fun r_9 =>
 some (r_9))
 else
 some (false)))
 else
 some (false)))
 else
 some (false)))
 else
 some (false))
 else
 some (false))
set_option maxHeartbeats 1000000 in
theorem qin (a_a0 : qG) (b_a1 : qG) (res : Bool) (hr : qeb a_a0 b_a1 = some res) : zi Tryz.prog 42 [qp a_a0, qp b_a1] (.bool res) := by
 unfold qeb at hr
 refine q7 [(0, qp a_a0), (1, qp b_a1)] Tryz.func42 rfl rfl fun K hK => (qk (gr [.d, .d, .d] (rd rfl (qdH rfl rfl rfl) (rd rfl (qdH rfl rfl rfl) (rc rfl (qg (qk (gr [.d, .d, .d, .d, .d, .d, .d, .d, .d, .d, .d, .d, .d, .d, .d, .d, .d, .d, .d, .d, .d, .d, .d, .d, .d, .d, .d, .d, .d, .d, .d, .d, .d, .d, .d, .d, .d, .d, .d, .d, .d] (rd rfl (qi rfl qfm rfl rfl rfl rfl) (rd rfl (qn rfl rfl (by exact qbr) rfl) (rd rfl (qi rfl qfm rfl rfl rfl rfl) (rd rfl (qn rfl rfl (by exact qbr) rfl) (rd rfl (qfl rfl rfl rfl rfl) ?_)))))))))))))
 refine rf rfl ?_
 refine zJ 10 rfl hr (fun h10_0 hr => ?_) (fun h10_0 hr => ?_)
 ·
  refine rd rfl (qi rfl qdW rfl rfl rfl rfl) (rd rfl (qn rfl rfl (by exact qL) rfl) (rd rfl (qi rfl qdW rfl rfl rfl rfl) (rd rfl (qn rfl rfl (by exact qL) rfl) (rd rfl (qV rfl rfl rfl rfl) (rd rfl (qP rfl rfl rfl) (rf rfl ?_))))))
  refine zJ 17 rfl hr (fun h17_1 hr => ?_) (fun h17_1 hr => ?_)
  ·
   refine rd rfl (qi rfl qat rfl rfl rfl rfl) (rd rfl (qn rfl rfl (by exact qw) rfl) (rd rfl (qi rfl qat rfl rfl rfl rfl) (rd rfl (qn rfl rfl (by exact qw) rfl) ?_)))
   obtain ⟨r_3, hr_3, hr⟩ := zb hr
   refine rd rfl (qM rfl qfU (.oc rfl (.oc rfl .nil)) (qgb _ _ _ hr_3)) (rd rfl (qP rfl rfl rfl) (rf rfl ?_))
   refine zJ 24 rfl hr (fun h24_3 hr => ?_) (fun h24_3 hr => ?_)
   ·
    refine rd rfl (qi rfl qas rfl rfl rfl rfl) (rd rfl (qn rfl rfl (by exact qw) rfl) (rd rfl (qi rfl qas rfl rfl rfl rfl) (rd rfl (qn rfl rfl (by exact qw) rfl) ?_)))
    obtain ⟨r_5, hr_5, hr⟩ := zb hr
    refine rd rfl (qM rfl qfU (.oc rfl (.oc rfl .nil)) (qgb _ _ _ hr_5)) (rd rfl (qP rfl rfl rfl) (rf rfl ?_))
    refine zJ 31 rfl hr (fun h31_5 hr => ?_) (fun h31_5 hr => ?_)
    ·
     refine rd rfl (qi rfl qao rfl rfl rfl rfl) (rd rfl (qn rfl rfl (by exact qE) rfl) (rd rfl (qi rfl qao rfl rfl rfl rfl) (rd rfl (qn rfl rfl (by exact qE) rfl) ?_)))
     obtain ⟨r_7, hr_7, hr⟩ := zb hr
     refine rd rfl (qM rfl qf0 (.oc rfl (.oc rfl .nil)) (qf4 _ _ _ hr_7)) (rd rfl (qP rfl rfl rfl) (rf rfl ?_))
     refine zJ 38 rfl hr (fun h38_7 hr => ?_) (fun h38_7 hr => ?_)
     ·
      refine rd rfl (qi rfl qcQ rfl rfl rfl rfl) (rd rfl (qn rfl rfl (by exact qE) rfl) (rd rfl (qi rfl qcQ rfl rfl rfl rfl) (rd rfl (qn rfl rfl (by exact qE) rfl) ?_)))
      obtain ⟨r_9, hr_9, hr⟩ := zb hr
      refine rd rfl (qM rfl qf0 (.oc rfl (.oc rfl .nil)) (qf4 _ _ _ hr_9)) (rd rfl (qP rfl rfl rfl) (rc rfl (qg ?_)))
      obtain rfl := Option.some.inj hr
      refine qS Tryz.func42 _ (.cons (za rfl (Wk.refl _)) .nil) ?_
      rfl
     ·
      refine rh rfl (rh rfl (rh rfl (rh rfl (rh rfl (rd rfl (qN rfl rfl rfl) (rc rfl (qg ?_)))))))
      obtain rfl := Option.some.inj hr
      refine qS Tryz.func42 _ (.cons (za rfl (Wk.refl _)) .nil) ?_
      rfl
    ·
     refine rh rfl (rh rfl (rh rfl (rh rfl (rh rfl (rd rfl (qN rfl rfl rfl) (rf rfl (rh rfl (rh rfl (rh rfl (rh rfl (rh rfl (rd rfl (qN rfl rfl rfl) (rc rfl ?_)))))))))))))
     refine qg ?_
     obtain rfl := Option.some.inj hr
     refine qS Tryz.func42 _ (.cons (za rfl (Wk.refl _)) .nil) ?_
     rfl
   ·
    refine rh rfl (rh rfl (rh rfl (rh rfl (rh rfl (rd rfl (qN rfl rfl rfl) (rf rfl (rh rfl (rh rfl (rh rfl (rh rfl (rh rfl (rd rfl (qN rfl rfl rfl) (rf rfl ?_)))))))))))))
    refine rh rfl (rh rfl (rh rfl (rh rfl (rh rfl (rd rfl (qN rfl rfl rfl) (rc rfl (qg ?_)))))))
    obtain rfl := Option.some.inj hr
    refine qS Tryz.func42 _ (.cons (za rfl (Wk.refl _)) .nil) ?_
    rfl
  ·
   refine rh rfl (rh rfl (rh rfl (rh rfl (rh rfl (rd rfl (qN rfl rfl rfl) (rf rfl (rh rfl (rh rfl (rh rfl (rh rfl (rh rfl (rd rfl (qN rfl rfl rfl) (rf rfl ?_)))))))))))))
   refine rh rfl (rh rfl (rh rfl (rh rfl (rh rfl (rd rfl (qN rfl rfl rfl) (rf rfl (rh rfl (rh rfl (rh rfl (rh rfl (rh rfl (rd rfl (qN rfl rfl rfl) (rc rfl ?_)))))))))))))
   refine qg ?_
   obtain rfl := Option.some.inj hr
   refine qS Tryz.func42 _ (.cons (za rfl (Wk.refl _)) .nil) ?_
   rfl
 ·
  refine rh rfl (rh rfl (rh rfl (rh rfl (rh rfl (rd rfl (qN rfl rfl rfl) (rf rfl (rh rfl (rh rfl (rh rfl (rh rfl (rh rfl (rd rfl (qN rfl rfl rfl) (rf rfl ?_)))))))))))))
  refine rh rfl (rh rfl (rh rfl (rh rfl (rh rfl (rd rfl (qN rfl rfl rfl) (rf rfl (rh rfl (rh rfl (rh rfl (rh rfl (rh rfl (rd rfl (qN rfl rfl rfl) (rf rfl ?_)))))))))))))
  refine rh rfl (rh rfl (rh rfl (rh rfl (rh rfl (rd rfl (qN rfl rfl rfl) (rc rfl (qg ?_)))))))
  obtain rfl := Option.some.inj hr
  refine qS Tryz.func42 _ (.cons (za rfl (Wk.refl _)) .nil) ?_
  rfl
noncomputable def qfy (fuel : Nat) (a_a0 : qG) (b_a1 : qG) : Option (Bool) :=
 ((qcA fuel a_a0).bind fun r_1 =>
 ((qcA fuel b_a1).bind fun r_2 =>
 ((qeb r_1 r_2).bind fun r_3 =>
 some (r_3))))
set_option maxHeartbeats 1000000 in
theorem qil (fuel : Nat) (a_a0 : qG) (b_a1 : qG) (res : Bool) (hr : qfy fuel a_a0 b_a1 = some res) : zi Tryz.prog 21 [qp a_a0, qp b_a1] (.bool res) := by
 unfold qfy at hr
 refine q7 [(0, qp a_a0), (1, qp b_a1)] Tryz.func21 rfl rfl fun K hK => (qk (gr [.d, .d, .d] (rd rfl (qdH rfl rfl rfl) (rd rfl (qdH rfl rfl rfl) (rc rfl (qg (qk (ga [(0, .d), (1, .d), (2, .d), (3, .d), (4, .d), (5, .d)] (rd rfl (qn rfl rfl (by exact qai) (qab _)) ?_)))))))))
 obtain ⟨r_1, hr_1, hr⟩ := zb hr
 refine rd rfl (qM rfl qd8 (.oc rfl .nil) (qea fuel _ _ hr_1)) (rd rfl (qn rfl rfl (by exact qai) (qab _)) ?_)
 obtain ⟨r_2, hr_2, hr⟩ := zb hr
 refine rd rfl (qM rfl qd8 (.oc rfl .nil) (qea fuel _ _ hr_2)) ?_
 obtain ⟨r_3, hr_3, hr⟩ := zb hr
 refine rd rfl (qM rfl qik (.oc rfl (.oc rfl .nil)) (qin _ _ _ hr_3)) (rc rfl (qg ?_))
 obtain rfl := Option.some.inj hr
 refine qS Tryz.func21 _ (.cons (za rfl (Wk.refl _)) .nil) ?_
 rfl
noncomputable def qa7 (k : ((List T)) → Option ((List T))) : List Gl → (List T) → Option ((List T))
 | [], out_19 =>
 (k out_19)
 | q_23 :: rest, out_19 =>
 ((zY 56 out_19 q_23.ts).bind fun l_24 =>
 (qa7 k rest l_24))
noncomputable def qa9 (k : ((List T)) → Option ((List T))) : List Gl → (List T) → Option ((List T))
 | [], out_14 =>
 (k out_14)
 | q_26 :: rest, out_14 =>
 ((zY 56 out_14 q_26.ts).bind fun l_27 =>
 (qa9 k rest l_27))
noncomputable def qa4 (k : ((List T)) → Option ((List T))) : List At → (List T) → Option ((List T))
 | [], out_9 =>
 (k out_9)
 | q_29 :: rest, out_9 =>
 ((zY 56 out_9 q_29.ts).bind fun l_30 =>
 (qa4 k rest l_30))
noncomputable def qba (k : ((List T)) → Option ((List T))) : List At → (List T) → Option ((List T))
 | [], out_4 =>
 (k out_4)
 | q_32 :: rest, out_4 =>
 ((zY 56 out_4 q_32.ts).bind fun l_33 =>
 (qba k rest l_33))
noncomputable def qcj (r_a0 : qG) : Option ((List T)) :=
 (qba (fun out_7 =>
 (qa4 (fun out_12 =>
 (qa9 (fun out_17 =>
 (qa7 (fun out_22 =>
 some (out_22)) r_a0.f4_Body out_17)) r_a0.f3_Guard out_12)) r_a0.f2_Remove out_7)) r_a0.f1_Keep [])
set_option maxHeartbeats 1000000 in
theorem qeZ (r_a0 : qG) (res : (List T)) (hr : qcj r_a0 = some res) : zi Tryz.prog 13 [qp r_a0] (.lst (res.map ze)) := by
 unfold qcj at hr
 refine q7 [(0, qp r_a0)] Tryz.func13 rfl rfl fun K hK => (qk (gr [.d, .w] (rd rfl (qdH rfl rfl rfl) (ew rfl (qb8 47 4 (.inl rfl)) ?_))))
 rintro _ _ ⟨u2_0, rfl, rfl⟩
 refine qg (qk (gr [.w] (ew rfl (qb8 47 4 (.inl rfl)) ?_)))
 rintro _ _ ⟨u3_1, rfl, rfl⟩
 refine qg (qk (qk (gr [.d] (rc rfl (qg ?_)))))
 obtain ⟨kk0, hkk0, hr⟩ := exK (fun k => qba k r_a0.f1_Keep []) hr
 refine qrS 0 [1] (l := r_a0.f1_Keep.map zl) rfl rfl (asl rfl) fun hla0 => ?_
 simp only [List.length_map] at hla0
 refine qaW (fun env σ => ∃ (out_7 : (List T)) (u_6 : Value), env = [(1, .ptr (qp r_a0)), (3, .own u_6 (out_7.map ze))] ∧ σ = [.row u_6 out_7.length 47 4] ∧ kk0 out_7 = some res) ?_ (fun HK0 => ?_)
 ·
  rintro _ _ ⟨out_7, u_6, rfl, rfl, hr⟩
  rw [hkk0] at hr
  refine qk (qk (gr [.d] (rc rfl (qg ?_))))
  obtain ⟨kk1, hkk1, hr⟩ := exK (fun k => qa4 k r_a0.f2_Remove out_7) hr
  refine qmw 1 [2] (l := r_a0.f2_Remove.map zl) rfl rfl (asl rfl) fun hla1 => ?_
  simp only [List.length_map] at hla1
  refine qaW (fun env σ => ∃ (out_12 : (List T)) (u_11 : Value), env = [(1, .ptr (qp r_a0)), (3, .own u_11 (out_12.map ze))] ∧ σ = [.row u_11 out_12.length 47 4] ∧ kk1 out_12 = some res) ?_ (fun HK1 => ?_)
  ·
   rintro _ _ ⟨out_12, u_11, rfl, rfl, hr⟩
   rw [hkk1] at hr
   refine qk (qk (gr [.d] (rc rfl (qg ?_))))
   obtain ⟨kk2, hkk2, hr⟩ := exK (fun k => qa9 k r_a0.f3_Guard out_12) hr
   refine qmw 1 [3] (l := r_a0.f3_Guard.map zk) rfl rfl (asl rfl) fun hla2 => ?_
   simp only [List.length_map] at hla2
   refine qaW (fun env σ => ∃ (out_17 : (List T)) (u_16 : Value), env = [(1, .ptr (qp r_a0)), (3, .own u_16 (out_17.map ze))] ∧ σ = [.row u_16 out_17.length 47 4] ∧ kk2 out_17 = some res) ?_ (fun HK2 => ?_)
   ·
    rintro _ _ ⟨out_17, u_16, rfl, rfl, hr⟩
    rw [hkk2] at hr
    refine qk (qk (gr [.d] (rc rfl (qg ?_))))
    obtain ⟨kk3, hkk3, hr⟩ := exK (fun k => qa7 k r_a0.f4_Body out_17) hr
    refine qmw 1 [4] (l := r_a0.f4_Body.map zk) rfl rfl (asl rfl) fun hla3 => ?_
    simp only [List.length_map] at hla3
    refine qaW (fun env σ => ∃ (out_22 : (List T)) (u_21 : Value), env = [(3, .own u_21 (out_22.map ze))] ∧ σ = [.row u_21 out_22.length 47 4] ∧ kk3 out_22 = some res) ?_ (fun HK3 => ?_)
    ·
     rintro _ _ ⟨out_22, u_21, rfl, rfl, hr⟩
     rw [hkk3] at hr
     refine qk (gr [.d, .d] (rf rfl (rc rfl (qg ?_))))
     obtain rfl := Option.some.inj hr
     refine qS Tryz.func13 _ (.cons (za rfl (Wk.own _ _)) .nil) ?_
     rfl
    ·
     refine qal [(1, .ptr (qp r_a0)), (3, .own u_16 (out_17.map ze)), (7, .int .i64 ((0 : Nat) : Int))] (sc rfl (sc rfl (sc rfl (Sub.nil _)))) (qcc (fun n env σ => ∃ (out_19 : (List T)) (i_20 : Nat) (u_18 : Value), (n = r_a0.f4_Body.length - i_20) ∧ (env = [(1, .ptr (qp r_a0)), (3, .own u_18 (out_19.map ze)), (7, .int .i64 (i_20 : Int))]) ∧ (σ = [.row u_18 out_19.length 47 4]) ∧ (i_20 ≤ r_a0.f4_Body.length) ∧ (qa7 kk3 (r_a0.f4_Body.drop i_20) out_19 = some res)) _ ⟨out_17, 0, u_16, rfl, rfl, rfl, Nat.zero_le _, hr⟩ ?_)
     rintro n _ _ ⟨out_19, i_20, u_18, rfl, rfl, rfl, hi3, hr⟩ IH3
     rcases zh r_a0.f4_Body i_20 hi3 with ⟨ht3, hd3, he3⟩ | ⟨q_23, ht3, hd3, hq3, hlt3⟩
     ·
      rw [hd3, qa7] at hr
      refine qk (qk (gr [.d, .d, .d, .d, .d] (rf rfl (rd rfl (qi rfl qcQ rfl rfl rfl rfl) (rd rfl (qn rfl rfl (by exact qE) rfl) (rd rfl (qbd (f := zk) r_a0.f4_Body rfl qH rfl (asl rfl)) (rd rfl (qV rfl rfl rfl rfl) (qg (qaJ 57 false rfl ht3 (qA rfl (qbB rfl (qal [(3, .own u_18 (out_19.map ze))] (sc rfl (Sub.nil _)) ?_))))))))))))
      exact HK3 _ _ ⟨out_19, u_18, rfl, rfl, hr⟩
     ·
      rw [hd3, qa7] at hr
      refine qk (qk (gr [.d, .d, .d, .d, .d] (rf rfl (rd rfl (qi rfl qcQ rfl rfl rfl rfl) (rd rfl (qn rfl rfl (by exact qE) rfl) (rd rfl (qbd (f := zk) r_a0.f4_Body rfl qH rfl (asl rfl)) (rd rfl (qV rfl rfl rfl rfl) (qg (qaJ 57 true rfl ht3 (qy rfl (qU (qk (qaP ?_)))))))))))))
      refine gr [.d, .d, .d, .d, .d, .d, .d, .w, .d] (rf rfl (rd rfl (qi rfl qcQ rfl rfl rfl rfl) (rd rfl (qn rfl rfl (by exact qE) rfl) (rf rfl (rd rfl (qB (f := zk) r_a0.f4_Body rfl qH rfl (asl rfl) rfl hq3 qbu rfl) (rd rfl (qi rfl qcm rfl rfl rfl rfl) (rd rfl (qn rfl rfl (by exact qT) rfl) ?_)))))))
      obtain ⟨l_24, hl_24, hr⟩ := zb hr
      refine ew rfl (qcd (f := ze) out_19 q_23.ts rfl qC rfl rfl (asl rfl) (pf0 _) rfl qI hl_24) ?_
      rintro _ _ ⟨u67_24, rfl, rfl⟩
      refine rc rfl (qg (qK (gr [.d, .d, .d] (rf rfl (rd rfl (zZ (r := ((i_20 + 1 : Nat) : Int)) rfl rfl rfl (by simp [iar]) (by omega)) (rc rfl (qg (qal [(1, .ptr (qp r_a0)), (3, .own u67_24 (l_24.map ze)), (7, .int .i64 ((i_20 + 1 : Nat) : Int))] (sc rfl (sc rfl (sc rfl (Sub.nil _)))) ?_))))))))
      exact IH3 _ _ _ (by omega) ⟨l_24, (i_20 + 1), u67_24, rfl, rfl, rfl, (by omega), hr⟩
   ·
    refine qal [(1, .ptr (qp r_a0)), (3, .own u_11 (out_12.map ze)), (6, .int .i64 ((0 : Nat) : Int))] (sc rfl (sc rfl (sc rfl (Sub.nil _)))) (qcc (fun n env σ => ∃ (out_14 : (List T)) (i_15 : Nat) (u_13 : Value), (n = r_a0.f3_Guard.length - i_15) ∧ (env = [(1, .ptr (qp r_a0)), (3, .own u_13 (out_14.map ze)), (6, .int .i64 (i_15 : Int))]) ∧ (σ = [.row u_13 out_14.length 47 4]) ∧ (i_15 ≤ r_a0.f3_Guard.length) ∧ (qa9 kk2 (r_a0.f3_Guard.drop i_15) out_14 = some res)) _ ⟨out_12, 0, u_11, rfl, rfl, rfl, Nat.zero_le _, hr⟩ ?_)
    rintro n _ _ ⟨out_14, i_15, u_13, rfl, rfl, rfl, hi2, hr⟩ IH2
    rcases zh r_a0.f3_Guard i_15 hi2 with ⟨ht2, hd2, he2⟩ | ⟨q_26, ht2, hd2, hq2, hlt2⟩
    ·
     rw [hd2, qa9] at hr
     refine qk (qk (gr [.d, .d, .d, .d, .d] (rf rfl (rd rfl (qi rfl qao rfl rfl rfl rfl) (rd rfl (qn rfl rfl (by exact qE) rfl) (rd rfl (qbd (f := zk) r_a0.f3_Guard rfl qH rfl (asl rfl)) (rd rfl (qV rfl rfl rfl rfl) (qg (qaJ 42 false rfl ht2 (qA rfl (qbB rfl (qal [(1, .ptr (qp r_a0)), (3, .own u_13 (out_14.map ze))] (sc rfl (sc rfl (Sub.nil _))) ?_))))))))))))
     exact HK2 _ _ ⟨out_14, u_13, rfl, rfl, hr⟩
    ·
     rw [hd2, qa9] at hr
     refine qk (qk (gr [.d, .d, .d, .d, .d] (rf rfl (rd rfl (qi rfl qao rfl rfl rfl rfl) (rd rfl (qn rfl rfl (by exact qE) rfl) (rd rfl (qbd (f := zk) r_a0.f3_Guard rfl qH rfl (asl rfl)) (rd rfl (qV rfl rfl rfl rfl) (qg (qaJ 42 true rfl ht2 (qy rfl (qU (qk (qaP ?_)))))))))))))
     refine gr [.d, .d, .d, .d, .d, .d, .d, .w, .d] (rf rfl (rd rfl (qi rfl qao rfl rfl rfl rfl) (rd rfl (qn rfl rfl (by exact qE) rfl) (rf rfl (rd rfl (qB (f := zk) r_a0.f3_Guard rfl qH rfl (asl rfl) rfl hq2 qbu rfl) (rd rfl (qi rfl qcm rfl rfl rfl rfl) (rd rfl (qn rfl rfl (by exact qT) rfl) ?_)))))))
     obtain ⟨l_27, hl_27, hr⟩ := zb hr
     refine ew rfl (qcd (f := ze) out_14 q_26.ts rfl qC rfl rfl (asl rfl) (pf0 _) rfl qI hl_27) ?_
     rintro _ _ ⟨u52_27, rfl, rfl⟩
     refine rc rfl (qg (qK (gr [.d, .d, .d] (rf rfl (rd rfl (zZ (r := ((i_15 + 1 : Nat) : Int)) rfl rfl rfl (by simp [iar]) (by omega)) (rc rfl (qg (qal [(1, .ptr (qp r_a0)), (3, .own u52_27 (l_27.map ze)), (6, .int .i64 ((i_15 + 1 : Nat) : Int))] (sc rfl (sc rfl (sc rfl (Sub.nil _)))) ?_))))))))
     exact IH2 _ _ _ (by omega) ⟨l_27, (i_15 + 1), u52_27, rfl, rfl, rfl, (by omega), hr⟩
  ·
   refine qal [(1, .ptr (qp r_a0)), (3, .own u_6 (out_7.map ze)), (5, .int .i64 ((0 : Nat) : Int))] (sc rfl (sc rfl (sc rfl (Sub.nil _)))) (qcc (fun n env σ => ∃ (out_9 : (List T)) (i_10 : Nat) (u_8 : Value), (n = r_a0.f2_Remove.length - i_10) ∧ (env = [(1, .ptr (qp r_a0)), (3, .own u_8 (out_9.map ze)), (5, .int .i64 (i_10 : Int))]) ∧ (σ = [.row u_8 out_9.length 47 4]) ∧ (i_10 ≤ r_a0.f2_Remove.length) ∧ (qa4 kk1 (r_a0.f2_Remove.drop i_10) out_9 = some res)) _ ⟨out_7, 0, u_6, rfl, rfl, rfl, Nat.zero_le _, hr⟩ ?_)
   rintro n _ _ ⟨out_9, i_10, u_8, rfl, rfl, rfl, hi1, hr⟩ IH1
   rcases zh r_a0.f2_Remove i_10 hi1 with ⟨ht1, hd1, he1⟩ | ⟨q_29, ht1, hd1, hq1, hlt1⟩
   ·
    rw [hd1, qa4] at hr
    refine qk (qk (gr [.d, .d, .d, .d, .d] (rf rfl (rd rfl (qi rfl qas rfl rfl rfl rfl) (rd rfl (qn rfl rfl (by exact qw) rfl) (rd rfl (qbd (f := zl) r_a0.f2_Remove rfl qO rfl (asl rfl)) (rd rfl (qV rfl rfl rfl rfl) (qg (qaJ 27 false rfl ht1 (qA rfl (qbB rfl (qal [(1, .ptr (qp r_a0)), (3, .own u_8 (out_9.map ze))] (sc rfl (sc rfl (Sub.nil _))) ?_))))))))))))
    exact HK1 _ _ ⟨out_9, u_8, rfl, rfl, hr⟩
   ·
    rw [hd1, qa4] at hr
    refine qk (qk (gr [.d, .d, .d, .d, .d] (rf rfl (rd rfl (qi rfl qas rfl rfl rfl rfl) (rd rfl (qn rfl rfl (by exact qw) rfl) (rd rfl (qbd (f := zl) r_a0.f2_Remove rfl qO rfl (asl rfl)) (rd rfl (qV rfl rfl rfl rfl) (qg (qaJ 27 true rfl ht1 (qy rfl (qU (qk (qaP ?_)))))))))))))
    refine gr [.d, .d, .d, .d, .d, .d, .d, .w, .d] (rf rfl (rd rfl (qi rfl qas rfl rfl rfl rfl) (rd rfl (qn rfl rfl (by exact qw) rfl) (rf rfl (rd rfl (qB (f := zl) r_a0.f2_Remove rfl qO rfl (asl rfl) rfl hq1 qb6 rfl) (rd rfl (qi rfl qcB rfl rfl rfl rfl) (rd rfl (qn rfl rfl (by exact qT) rfl) ?_)))))))
    obtain ⟨l_30, hl_30, hr⟩ := zb hr
    refine ew rfl (qcd (f := ze) out_9 q_29.ts rfl qC rfl rfl (asl rfl) (pf0 _) rfl qI hl_30) ?_
    rintro _ _ ⟨u37_30, rfl, rfl⟩
    refine rc rfl (qg (qK (gr [.d, .d, .d] (rf rfl (rd rfl (zZ (r := ((i_10 + 1 : Nat) : Int)) rfl rfl rfl (by simp [iar]) (by omega)) (rc rfl (qg (qal [(1, .ptr (qp r_a0)), (3, .own u37_30 (l_30.map ze)), (5, .int .i64 ((i_10 + 1 : Nat) : Int))] (sc rfl (sc rfl (sc rfl (Sub.nil _)))) ?_))))))))
    exact IH1 _ _ _ (by omega) ⟨l_30, (i_10 + 1), u37_30, rfl, rfl, rfl, (by omega), hr⟩
 ·
  refine qal [(1, .ptr (qp r_a0)), (3, .own u3_1 ([].map ze)), (4, .int .i64 ((0 : Nat) : Int))] (sc rfl (sc rfl (sc rfl (Sub.nil _)))) (qbf [_] _ (pf0 _) (qcc (fun n env σ => ∃ (out_4 : (List T)) (i_5 : Nat) (u_3 : Value), (n = r_a0.f1_Keep.length - i_5) ∧ (env = [(1, .ptr (qp r_a0)), (3, .own u_3 (out_4.map ze)), (4, .int .i64 (i_5 : Int))]) ∧ (σ = [.row u_3 out_4.length 47 4]) ∧ (i_5 ≤ r_a0.f1_Keep.length) ∧ (qba kk0 (r_a0.f1_Keep.drop i_5) out_4 = some res)) _ ⟨[], 0, u3_1, rfl, rfl, rfl, Nat.zero_le _, hr⟩ ?_))
  rintro n _ _ ⟨out_4, i_5, u_3, rfl, rfl, rfl, hi0, hr⟩ IH0
  rcases zh r_a0.f1_Keep i_5 hi0 with ⟨ht0, hd0, he0⟩ | ⟨q_32, ht0, hd0, hq0, hlt0⟩
  ·
   rw [hd0, qba] at hr
   refine qk (qk (gr [.d, .d, .d, .d, .d] (rf rfl (rd rfl (qi rfl qat rfl rfl rfl rfl) (rd rfl (qn rfl rfl (by exact qw) rfl) (rd rfl (qbd (f := zl) r_a0.f1_Keep rfl qO rfl (asl rfl)) (rd rfl (qV rfl rfl rfl rfl) (qg (qaJ 12 false rfl ht0 (qA rfl (qbB rfl (qal [(1, .ptr (qp r_a0)), (3, .own u_3 (out_4.map ze))] (sc rfl (sc rfl (Sub.nil _))) ?_))))))))))))
   exact HK0 _ _ ⟨out_4, u_3, rfl, rfl, hr⟩
  ·
   rw [hd0, qba] at hr
   refine qk (qk (gr [.d, .d, .d, .d, .d] (rf rfl (rd rfl (qi rfl qat rfl rfl rfl rfl) (rd rfl (qn rfl rfl (by exact qw) rfl) (rd rfl (qbd (f := zl) r_a0.f1_Keep rfl qO rfl (asl rfl)) (rd rfl (qV rfl rfl rfl rfl) (qg (qaJ 12 true rfl ht0 (qy rfl (qU (qk (qaP ?_)))))))))))))
   refine gr [.d, .d, .d, .d, .d, .d, .d, .w, .d] (rf rfl (rd rfl (qi rfl qat rfl rfl rfl rfl) (rd rfl (qn rfl rfl (by exact qw) rfl) (rf rfl (rd rfl (qB (f := zl) r_a0.f1_Keep rfl qO rfl (asl rfl) rfl hq0 qb6 rfl) (rd rfl (qi rfl qcB rfl rfl rfl rfl) (rd rfl (qn rfl rfl (by exact qT) rfl) ?_)))))))
   obtain ⟨l_33, hl_33, hr⟩ := zb hr
   refine ew rfl (qcd (f := ze) out_4 q_32.ts rfl qC rfl rfl (asl rfl) (pf0 _) rfl qI hl_33) ?_
   rintro _ _ ⟨u22_33, rfl, rfl⟩
   refine rc rfl (qg (qK (gr [.d, .d, .d] (rf rfl (rd rfl (zZ (r := ((i_5 + 1 : Nat) : Int)) rfl rfl rfl (by simp [iar]) (by omega)) (rc rfl (qg (qal [(1, .ptr (qp r_a0)), (3, .own u22_33 (l_33.map ze)), (4, .int .i64 ((i_5 + 1 : Nat) : Int))] (sc rfl (sc rfl (sc rfl (Sub.nil _)))) ?_))))))))
   exact IH0 _ _ _ (by omega) ⟨l_33, (i_5 + 1), u22_33, rfl, rfl, rfl, (by omega), hr⟩
noncomputable def qbD (k : Option (Bool)) (b_a1 : (List At)) : List At → Nat → Option (Bool)
 | [], i_2 =>
 k
 | q_3 :: rest, i_2 =>
 (bif (decide ((i_2 : Int) < (b_a1.length : Int))) then
 ((zw b_a1 (i_2 : Int)).bind fun q_5 =>
 ((qjd q_3 q_5).bind fun r_6 =>
 (bif (!r_6) then
 some (false)
 else
 (qbD k b_a1 rest (i_2 + 1)))))
 else
 k)
noncomputable def qcM (a_a0 : (List At)) (b_a1 : (List At)) : Option (Bool) :=
 (bif ((a_a0.length : Int) != (b_a1.length : Int)) then
 some (false)
 else
 (qbD (some (true)) b_a1 a_a0 0))
set_option maxHeartbeats 1000000 in
theorem qej (a_a0 : (List At)) (b_a1 : (List At)) (res : Bool) (hr : qcM a_a0 b_a1 = some res) : zi Tryz.prog 38 [.lst (a_a0.map zl), .lst (b_a1.map zl)] (.bool res) := by
 unfold qcM at hr
 refine q7 [(0, .lst (a_a0.map zl)), (1, .lst (b_a1.map zl))] Tryz.func38 rfl rfl fun K hK => (qk (gr [.d] (rc rfl (qg (qk (qk (gr [.d, .d, .d, .d, .d] (rf rfl (rd rfl (qbd (f := zl) a_a0 rfl qO rfl (asl rfl)) (rf rfl (rd rfl (qbd (f := zl) b_a1 rfl qO rfl (asl rfl)) (rd rfl (qV rfl rfl rfl rfl) (qg ?_)))))))))))))
 refine zq 10 rfl hr (fun h10_0 hr => ?_) (fun h10_0 hr => ?_)
 ·
  refine qy rfl (qk (gr [.d] (rc rfl (qg ?_))))
  obtain rfl := Option.some.inj hr
  refine qS Tryz.func38 _ (.cons (za rfl (Wk.refl _)) .nil) ?_
  rfl
 ·
  refine qA rfl (qU (qk (qk (gr [.d] (rc rfl (qg ?_))))))
  obtain ⟨kk0, hkk0, hr⟩ := exK (fun k => qbD k b_a1 a_a0 0) hr
  refine qfb 0 rfl (asl rfl) fun hla0 => ?_
  simp only [List.length_map] at hla0
  refine qaW (fun env σ => env = [] ∧ σ = [] ∧ kk0 = some res) ?_ (fun HK0 => ?_)
  ·
   rintro _ _ ⟨rfl, rfl, hr⟩
   rw [hkk0] at hr
   refine qk (gr [.d] (rc rfl (qg ?_)))
   obtain rfl := Option.some.inj hr
   refine qS Tryz.func38 _ (.cons (za rfl (Wk.refl _)) .nil) ?_
   rfl
  ·
   refine qal [(0, .lst (a_a0.map zl)), (1, .lst (b_a1.map zl)), (5, .int .i64 ((0 : Nat) : Int))] (sc rfl (sc rfl (sc rfl (Sub.nil _)))) (qcc (fun n env σ => ∃ (i_2 : Nat), (n = a_a0.length - i_2) ∧ (env = [(0, .lst (a_a0.map zl)), (1, .lst (b_a1.map zl)), (5, .int .i64 (i_2 : Int))]) ∧ (σ = []) ∧ (i_2 ≤ a_a0.length) ∧ (qbD kk0 b_a1 (a_a0.drop i_2) i_2 = some res)) _ ⟨0, rfl, rfl, rfl, Nat.zero_le _, hr⟩ ?_)
   rintro n _ _ ⟨i_2, rfl, rfl, rfl, hi0, hr⟩ IH0
   rcases zh a_a0 i_2 hi0 with ⟨ht0, hd0, he0⟩ | ⟨q_3, ht0, hd0, hq0, hlt0⟩
   ·
    rw [hd0, qbD] at hr
    refine qk (qk (gr [.d, .d, .d, .d, .d, .d, .d, .d, .d, .d] (rf rfl (rf rfl (rd rfl (qbd (f := zl) a_a0 rfl qO rfl (asl rfl)) (rd rfl (qV rfl rfl rfl rfl) (rf rfl (qdS 15 false rfl ht0 (rh rfl (rh rfl (rh rfl (rh rfl (rd rfl (qN rfl rfl rfl) ?_)))))))))))))
    refine qg (qA rfl (qbB rfl (qal [] (Sub.nil _) ?_)))
    exact HK0 _ _ ⟨rfl, rfl, hr⟩
   ·
    rw [hd0, qbD] at hr
    refine qk (qk (gr [.d, .d, .d, .d, .d, .d, .d, .d, .d, .d] (rf rfl (rf rfl (rd rfl (qbd (f := zl) a_a0 rfl qO rfl (asl rfl)) (rd rfl (qV rfl rfl rfl rfl) (rf rfl (qdS 15 true rfl ht0 (rf rfl (rf rfl (rd rfl (qbd (f := zl) b_a1 rfl qO rfl (asl rfl)) (rd rfl (qV rfl rfl rfl rfl) (rd rfl (qP rfl rfl rfl) ?_)))))))))))))
    refine qg ?_
    refine zq 20 rfl hr (fun h20_3 hr => ?_) (fun h20_3 hr => ?_)
    ·
     refine qy rfl (qU (qk (qaP (qk (ga [(0, .d), (1, .d), (2, .d), (3, .d), (4, .d), (5, .d), (6, .d), (7, .d), (8, .d), (9, .d)] (rf rfl (rf rfl (rd rfl (qB (f := zl) a_a0 rfl qO rfl (asl rfl) rfl hq0 qb6 rfl) (rd rfl (qn rfl rfl (by exact qbW) (qb6 _)) (rf rfl (rf rfl ?_)))))))))))
     obtain ⟨q_5, hq_5, hr⟩ := zb hr
     refine rd rfl (qB (f := zl) b_a1 rfl qO rfl (asl rfl) rfl hq_5 qb6 rfl) (rd rfl (qn rfl rfl (by exact qbW) (qb6 _)) ?_)
     obtain ⟨r_6, hr_6, hr⟩ := zb hr
     refine rd rfl (qM rfl qf7 (.oc rfl (.oc rfl .nil)) (qfZ _ _ _ hr_6)) (rd rfl (qdN rfl rfl) (qg ?_))
     refine zq 32 rfl hr (fun h32_6 hr => ?_) (fun h32_6 hr => ?_)
     ·
      refine qy rfl (qk (gr [.d] (rc rfl (qg ?_))))
      obtain rfl := Option.some.inj hr
      refine qS Tryz.func38 _ (.cons (za rfl (Wk.refl _)) .nil) ?_
      rfl
     ·
      refine qA rfl (qU (qK (gr [.d, .d, .d] (rf rfl (rd rfl (zZ (r := ((i_2 + 1 : Nat) : Int)) rfl rfl rfl (by simp [iar]) (by omega)) (rc rfl (qg (qal [(0, .lst (a_a0.map zl)), (1, .lst (b_a1.map zl)), (5, .int .i64 ((i_2 + 1 : Nat) : Int))] (sc rfl (sc rfl (sc rfl (Sub.nil _)))) ?_))))))))
      exact IH0 _ _ _ (by omega) ⟨(i_2 + 1), rfl, rfl, rfl, (by omega), hr⟩
    ·
     refine qA rfl (qbB rfl (qal [] (Sub.nil _) ?_))
     exact HK0 _ _ ⟨rfl, rfl, hr⟩
noncomputable def qbC (k : Option (Bool)) (b_a1 : (List Gl)) : List Gl → Nat → Option (Bool)
 | [], i_2 =>
 k
 | q_3 :: rest, i_2 =>
 (bif (decide ((i_2 : Int) < (b_a1.length : Int))) then
 ((zw b_a1 (i_2 : Int)).bind fun q_5 =>
 ((qir q_3 q_5).bind fun r_6 =>
 (bif (!r_6) then
 some (false)
 else
 (qbC k b_a1 rest (i_2 + 1)))))
 else
 k)
noncomputable def qcN (a_a0 : (List Gl)) (b_a1 : (List Gl)) : Option (Bool) :=
 (bif ((a_a0.length : Int) != (b_a1.length : Int)) then
 some (false)
 else
 (qbC (some (true)) b_a1 a_a0 0))
set_option maxHeartbeats 1000000 in
theorem qei (a_a0 : (List Gl)) (b_a1 : (List Gl)) (res : Bool) (hr : qcN a_a0 b_a1 = some res) : zi Tryz.prog 39 [.lst (a_a0.map zk), .lst (b_a1.map zk)] (.bool res) := by
 unfold qcN at hr
 refine q7 [(0, .lst (a_a0.map zk)), (1, .lst (b_a1.map zk))] Tryz.func39 rfl rfl fun K hK => (qk (gr [.d] (rc rfl (qg (qk (qk (gr [.d, .d, .d, .d, .d] (rf rfl (rd rfl (qbd (f := zk) a_a0 rfl qH rfl (asl rfl)) (rf rfl (rd rfl (qbd (f := zk) b_a1 rfl qH rfl (asl rfl)) (rd rfl (qV rfl rfl rfl rfl) (qg ?_)))))))))))))
 refine zq 10 rfl hr (fun h10_0 hr => ?_) (fun h10_0 hr => ?_)
 ·
  refine qy rfl (qk (gr [.d] (rc rfl (qg ?_))))
  obtain rfl := Option.some.inj hr
  refine qS Tryz.func39 _ (.cons (za rfl (Wk.refl _)) .nil) ?_
  rfl
 ·
  refine qA rfl (qU (qk (qk (gr [.d] (rc rfl (qg ?_))))))
  obtain ⟨kk0, hkk0, hr⟩ := exK (fun k => qbC k b_a1 a_a0 0) hr
  refine qfb 0 rfl (asl rfl) fun hla0 => ?_
  simp only [List.length_map] at hla0
  refine qaW (fun env σ => env = [] ∧ σ = [] ∧ kk0 = some res) ?_ (fun HK0 => ?_)
  ·
   rintro _ _ ⟨rfl, rfl, hr⟩
   rw [hkk0] at hr
   refine qk (gr [.d] (rc rfl (qg ?_)))
   obtain rfl := Option.some.inj hr
   refine qS Tryz.func39 _ (.cons (za rfl (Wk.refl _)) .nil) ?_
   rfl
  ·
   refine qal [(0, .lst (a_a0.map zk)), (1, .lst (b_a1.map zk)), (5, .int .i64 ((0 : Nat) : Int))] (sc rfl (sc rfl (sc rfl (Sub.nil _)))) (qcc (fun n env σ => ∃ (i_2 : Nat), (n = a_a0.length - i_2) ∧ (env = [(0, .lst (a_a0.map zk)), (1, .lst (b_a1.map zk)), (5, .int .i64 (i_2 : Int))]) ∧ (σ = []) ∧ (i_2 ≤ a_a0.length) ∧ (qbC kk0 b_a1 (a_a0.drop i_2) i_2 = some res)) _ ⟨0, rfl, rfl, rfl, Nat.zero_le _, hr⟩ ?_)
   rintro n _ _ ⟨i_2, rfl, rfl, rfl, hi0, hr⟩ IH0
   rcases zh a_a0 i_2 hi0 with ⟨ht0, hd0, he0⟩ | ⟨q_3, ht0, hd0, hq0, hlt0⟩
   ·
    rw [hd0, qbC] at hr
    refine qk (qk (gr [.d, .d, .d, .d, .d, .d, .d, .d, .d, .d] (rf rfl (rf rfl (rd rfl (qbd (f := zk) a_a0 rfl qH rfl (asl rfl)) (rd rfl (qV rfl rfl rfl rfl) (rf rfl (qdS 15 false rfl ht0 (rh rfl (rh rfl (rh rfl (rh rfl (rd rfl (qN rfl rfl rfl) ?_)))))))))))))
    refine qg (qA rfl (qbB rfl (qal [] (Sub.nil _) ?_)))
    exact HK0 _ _ ⟨rfl, rfl, hr⟩
   ·
    rw [hd0, qbC] at hr
    refine qk (qk (gr [.d, .d, .d, .d, .d, .d, .d, .d, .d, .d] (rf rfl (rf rfl (rd rfl (qbd (f := zk) a_a0 rfl qH rfl (asl rfl)) (rd rfl (qV rfl rfl rfl rfl) (rf rfl (qdS 15 true rfl ht0 (rf rfl (rf rfl (rd rfl (qbd (f := zk) b_a1 rfl qH rfl (asl rfl)) (rd rfl (qV rfl rfl rfl rfl) (rd rfl (qP rfl rfl rfl) ?_)))))))))))))
    refine qg ?_
    refine zq 20 rfl hr (fun h20_3 hr => ?_) (fun h20_3 hr => ?_)
    ·
     refine qy rfl (qU (qk (qaP (qk (ga [(0, .d), (1, .d), (2, .d), (3, .d), (4, .d), (5, .d), (6, .d), (7, .d), (8, .d), (9, .d)] (rf rfl (rf rfl (rd rfl (qB (f := zk) a_a0 rfl qH rfl (asl rfl) rfl hq0 qbu rfl) (rd rfl (qn rfl rfl (by exact qbs) (qbu _)) (rf rfl (rf rfl ?_)))))))))))
     obtain ⟨q_5, hq_5, hr⟩ := zb hr
     refine rd rfl (qB (f := zk) b_a1 rfl qH rfl (asl rfl) rfl hq_5 qbu rfl) (rd rfl (qn rfl rfl (by exact qbs) (qbu _)) ?_)
     obtain ⟨r_6, hr_6, hr⟩ := zb hr
     refine rd rfl (qM rfl qer (.oc rfl (.oc rfl .nil)) (qes _ _ _ hr_6)) (rd rfl (qdN rfl rfl) (qg ?_))
     refine zq 32 rfl hr (fun h32_6 hr => ?_) (fun h32_6 hr => ?_)
     ·
      refine qy rfl (qk (gr [.d] (rc rfl (qg ?_))))
      obtain rfl := Option.some.inj hr
      refine qS Tryz.func39 _ (.cons (za rfl (Wk.refl _)) .nil) ?_
      rfl
     ·
      refine qA rfl (qU (qK (gr [.d, .d, .d] (rf rfl (rd rfl (zZ (r := ((i_2 + 1 : Nat) : Int)) rfl rfl rfl (by simp [iar]) (by omega)) (rc rfl (qg (qal [(0, .lst (a_a0.map zk)), (1, .lst (b_a1.map zk)), (5, .int .i64 ((i_2 + 1 : Nat) : Int))] (sc rfl (sc rfl (sc rfl (Sub.nil _)))) ?_))))))))
      exact IH0 _ _ _ (by omega) ⟨(i_2 + 1), rfl, rfl, rfl, (by omega), hr⟩
    ·
     refine qA rfl (qbB rfl (qal [] (Sub.nil _) ?_))
     exact HK0 _ _ ⟨rfl, rfl, hr⟩
noncomputable def qdq (a_a0 : qG) (b_a1 : qG) : Option (Bool) :=
 (bif (a_a0.f0_Name.toList == b_a1.f0_Name.toList) then
 (bif (a_a0.f5_Vars == b_a1.f5_Vars) then
 ((qcM a_a0.f1_Keep b_a1.f1_Keep).bind fun r_3 =>
 (bif r_3 then
 ((qcM a_a0.f2_Remove b_a1.f2_Remove).bind fun r_5 =>
 (bif r_5 then
 ((qcN a_a0.f3_Guard b_a1.f3_Guard).bind fun r_7 =>
 (bif r_7 then
 ((qcN a_a0.f4_Body b_a1.f4_Body).bind fun r_9 =>
 some (r_9))
 else
 some (false)))
 else
 some (false)))
 else
 some (false)))
 else
 some (false))
 else
 some (false))
set_option maxHeartbeats 1000000 in
theorem qgk (a_a0 : qG) (b_a1 : qG) (res : Bool) (hr : qdq a_a0 b_a1 = some res) : zi Tryz.prog 19 [qp a_a0, qp b_a1] (.bool res) := by
 unfold qdq at hr
 refine q7 [(0, qp a_a0), (1, qp b_a1)] Tryz.func19 rfl rfl fun K hK => (qk (gr [.d, .d, .d] (rd rfl (qdH rfl rfl rfl) (rd rfl (qdH rfl rfl rfl) (rc rfl (qg (qk (gr [.d, .d, .d, .d, .d, .d, .d, .d, .d, .d, .d, .d, .d, .d, .d, .d, .d, .d, .d, .d, .d, .d, .d, .d, .d, .d, .d, .d, .d, .d, .d, .d, .d, .d, .d, .d, .d, .d, .d, .d, .d] (rd rfl (qi rfl qfm rfl rfl rfl rfl) (rd rfl (qn rfl rfl (by exact qbr) rfl) (rd rfl (qi rfl qfm rfl rfl rfl rfl) (rd rfl (qn rfl rfl (by exact qbr) rfl) (rd rfl (qfl rfl rfl rfl rfl) ?_)))))))))))))
 refine rf rfl ?_
 refine zJ 10 rfl hr (fun h10_0 hr => ?_) (fun h10_0 hr => ?_)
 ·
  refine rd rfl (qi rfl qdW rfl rfl rfl rfl) (rd rfl (qn rfl rfl (by exact qL) rfl) (rd rfl (qi rfl qdW rfl rfl rfl rfl) (rd rfl (qn rfl rfl (by exact qL) rfl) (rd rfl (qV rfl rfl rfl rfl) (rd rfl (qP rfl rfl rfl) (rf rfl ?_))))))
  refine zJ 17 rfl hr (fun h17_1 hr => ?_) (fun h17_1 hr => ?_)
  ·
   refine rd rfl (qi rfl qat rfl rfl rfl rfl) (rd rfl (qn rfl rfl (by exact qw) rfl) (rd rfl (qi rfl qat rfl rfl rfl rfl) (rd rfl (qn rfl rfl (by exact qw) rfl) ?_)))
   obtain ⟨r_3, hr_3, hr⟩ := zb hr
   refine rd rfl (qM rfl qeg (.oc rfl (.oc rfl .nil)) (qej _ _ _ hr_3)) (rd rfl (qP rfl rfl rfl) (rf rfl ?_))
   refine zJ 24 rfl hr (fun h24_3 hr => ?_) (fun h24_3 hr => ?_)
   ·
    refine rd rfl (qi rfl qas rfl rfl rfl rfl) (rd rfl (qn rfl rfl (by exact qw) rfl) (rd rfl (qi rfl qas rfl rfl rfl rfl) (rd rfl (qn rfl rfl (by exact qw) rfl) ?_)))
    obtain ⟨r_5, hr_5, hr⟩ := zb hr
    refine rd rfl (qM rfl qeg (.oc rfl (.oc rfl .nil)) (qej _ _ _ hr_5)) (rd rfl (qP rfl rfl rfl) (rf rfl ?_))
    refine zJ 31 rfl hr (fun h31_5 hr => ?_) (fun h31_5 hr => ?_)
    ·
     refine rd rfl (qi rfl qao rfl rfl rfl rfl) (rd rfl (qn rfl rfl (by exact qE) rfl) (rd rfl (qi rfl qao rfl rfl rfl rfl) (rd rfl (qn rfl rfl (by exact qE) rfl) ?_)))
     obtain ⟨r_7, hr_7, hr⟩ := zb hr
     refine rd rfl (qM rfl qef (.oc rfl (.oc rfl .nil)) (qei _ _ _ hr_7)) (rd rfl (qP rfl rfl rfl) (rf rfl ?_))
     refine zJ 38 rfl hr (fun h38_7 hr => ?_) (fun h38_7 hr => ?_)
     ·
      refine rd rfl (qi rfl qcQ rfl rfl rfl rfl) (rd rfl (qn rfl rfl (by exact qE) rfl) (rd rfl (qi rfl qcQ rfl rfl rfl rfl) (rd rfl (qn rfl rfl (by exact qE) rfl) ?_)))
      obtain ⟨r_9, hr_9, hr⟩ := zb hr
      refine rd rfl (qM rfl qef (.oc rfl (.oc rfl .nil)) (qei _ _ _ hr_9)) (rd rfl (qP rfl rfl rfl) (rc rfl (qg ?_)))
      obtain rfl := Option.some.inj hr
      refine qS Tryz.func19 _ (.cons (za rfl (Wk.refl _)) .nil) ?_
      rfl
     ·
      refine rh rfl (rh rfl (rh rfl (rh rfl (rh rfl (rd rfl (qN rfl rfl rfl) (rc rfl (qg ?_)))))))
      obtain rfl := Option.some.inj hr
      refine qS Tryz.func19 _ (.cons (za rfl (Wk.refl _)) .nil) ?_
      rfl
    ·
     refine rh rfl (rh rfl (rh rfl (rh rfl (rh rfl (rd rfl (qN rfl rfl rfl) (rf rfl (rh rfl (rh rfl (rh rfl (rh rfl (rh rfl (rd rfl (qN rfl rfl rfl) (rc rfl ?_)))))))))))))
     refine qg ?_
     obtain rfl := Option.some.inj hr
     refine qS Tryz.func19 _ (.cons (za rfl (Wk.refl _)) .nil) ?_
     rfl
   ·
    refine rh rfl (rh rfl (rh rfl (rh rfl (rh rfl (rd rfl (qN rfl rfl rfl) (rf rfl (rh rfl (rh rfl (rh rfl (rh rfl (rh rfl (rd rfl (qN rfl rfl rfl) (rf rfl ?_)))))))))))))
    refine rh rfl (rh rfl (rh rfl (rh rfl (rh rfl (rd rfl (qN rfl rfl rfl) (rc rfl (qg ?_)))))))
    obtain rfl := Option.some.inj hr
    refine qS Tryz.func19 _ (.cons (za rfl (Wk.refl _)) .nil) ?_
    rfl
  ·
   refine rh rfl (rh rfl (rh rfl (rh rfl (rh rfl (rd rfl (qN rfl rfl rfl) (rf rfl (rh rfl (rh rfl (rh rfl (rh rfl (rh rfl (rd rfl (qN rfl rfl rfl) (rf rfl ?_)))))))))))))
   refine rh rfl (rh rfl (rh rfl (rh rfl (rh rfl (rd rfl (qN rfl rfl rfl) (rf rfl (rh rfl (rh rfl (rh rfl (rh rfl (rh rfl (rd rfl (qN rfl rfl rfl) (rc rfl ?_)))))))))))))
   refine qg ?_
   obtain rfl := Option.some.inj hr
   refine qS Tryz.func19 _ (.cons (za rfl (Wk.refl _)) .nil) ?_
   rfl
 ·
  refine rh rfl (rh rfl (rh rfl (rh rfl (rh rfl (rd rfl (qN rfl rfl rfl) (rf rfl (rh rfl (rh rfl (rh rfl (rh rfl (rh rfl (rd rfl (qN rfl rfl rfl) (rf rfl ?_)))))))))))))
  refine rh rfl (rh rfl (rh rfl (rh rfl (rh rfl (rd rfl (qN rfl rfl rfl) (rf rfl (rh rfl (rh rfl (rh rfl (rh rfl (rh rfl (rd rfl (qN rfl rfl rfl) (rf rfl ?_)))))))))))))
  refine rh rfl (rh rfl (rh rfl (rh rfl (rh rfl (rd rfl (qN rfl rfl rfl) (rc rfl (qg ?_)))))))
  obtain rfl := Option.some.inj hr
  refine qS Tryz.func19 _ (.cons (za rfl (Wk.refl _)) .nil) ?_
  rfl
noncomputable def qcH (r_a0 : qG) : Option ((List At)) :=
 ((zY 40 [] r_a0.f1_Keep).bind fun l_3 =>
 ((zY 40 l_3 r_a0.f2_Remove).bind fun l_5 =>
 some (l_5)))
set_option maxHeartbeats 1000000 in
theorem qg7 (r_a0 : qG) (res : (List At)) (hr : qcH r_a0 = some res) : zi Tryz.prog 24 [qp r_a0] (.lst (res.map zl)) := by
 unfold qcH at hr
 refine q7 [(0, qp r_a0)] Tryz.func24 rfl rfl fun K hK => (qk (gr [.d, .w] (rd rfl (qdH rfl rfl rfl) (ew rfl (qb8 34 2 (.inl rfl)) ?_))))
 rintro _ _ ⟨u2_0, rfl, rfl⟩
 refine qg (qk (gr [.w] (ew rfl (qb8 34 2 (.inl rfl)) ?_)))
 rintro _ _ ⟨u3_1, rfl, rfl⟩
 refine qg (qk (gr [.d, .d, .d, .w, .d] (rf rfl (rd rfl (qi rfl qat rfl rfl rfl rfl) (rd rfl (qn rfl rfl (by exact qw) rfl) ?_)))))
 obtain ⟨l_3, hl_3, hr⟩ := zb hr
 refine ew rfl (qcd (f := zl) [] r_a0.f1_Keep rfl qO rfl rfl (asl rfl) (pf0 _) rfl qb6 hl_3) ?_
 rintro _ _ ⟨u7_3, rfl, rfl⟩
 refine rc rfl (qg (qk (gr [.d, .d, .d, .w, .d] (rf rfl (rd rfl (qi rfl qas rfl rfl rfl rfl) (rd rfl (qn rfl rfl (by exact qw) rfl) ?_))))))
 obtain ⟨l_5, hl_5, hr⟩ := zb hr
 refine ew rfl (qcd (f := zl) l_3 r_a0.f2_Remove rfl qO rfl rfl (asl rfl) (pf0 _) rfl qb6 hl_5) ?_
 rintro _ _ ⟨u11_5, rfl, rfl⟩
 refine rc rfl (qg ?_)
 obtain rfl := Option.some.inj hr
 refine qS Tryz.func24 _ (.cons (za rfl (Wk.own _ _)) .nil) ?_
 rfl
noncomputable def qbZ (n_a0 : Int) : Option (T) :=
 some ((T.mk 1 n_a0 ⟨#[]⟩ []))
set_option maxHeartbeats 1000000 in
theorem qcu (n_a0 : Int) (res : T) (hr : qbZ n_a0 = some res) : zi Tryz.prog 18 [.int .i64 n_a0] (ze res) := by
 unfold qbZ at hr
 refine q7 [(0, .int .i64 n_a0)] Tryz.func18 rfl rfl fun K hK => (qk (gr [.w] (ew rfl (qY rfl qbc) ?_)))
 rintro _ _ ⟨b2_0, rfl, rfl⟩
 refine qg (qk (gr [.d, .d, .w] (rf rfl (rd rfl (qbj rfl qfr (.oc rfl (.oc rfl .nil)) (.cons rfl rfl rfl (.cons rfl rfl rfl (.nil _)))) (eqR rfl (qt _ rfl rfl rfl (Wk.refl _) (pf0 _) (by exact qr) rfl rfl rfl) (qg ?_))))))
 obtain rfl := Option.some.inj hr
 refine qS Tryz.func18 _ (.cons (z4 rfl (.head _) (by exact qr) rfl (Wk.refl _)) .nil) ?_
 first | rfl | (show _ = D.agg (fsT _); rw [qcY] <;> rfl) | simp [yP, ze, qcY, T.k, T.i, T.s, T.ar]
noncomputable def qaH (k : (Int) → Option (Bool)) : List At → Int → Option (Bool)
 | [], most_1 =>
 (k most_1)
 | q_4 :: rest, most_1 =>
 (bif (decide (most_1 ≥ (0 : Int))) then
 ((qj3 q_4.ts (wr ((wr (most_1 - (1 : Int))) - (wr (Int.tdiv (q_4.n.size : Int) 8)))) 64).bind fun r_6 =>
 (qaH k rest r_6))
 else
 (k most_1))
noncomputable def qbw (l_a0 : (List At)) (most_a1 : Int) : Option (Bool) :=
 (qaH (fun most_3 =>
 some ((decide (most_3 < (0 : Int))))) l_a0 most_a1)
set_option maxHeartbeats 1000000 in
theorem qdj (l_a0 : (List At)) (most_a1 : Int) (res : Bool) (hr : qbw l_a0 most_a1 = some res) : zi Tryz.prog 6 [.lst (l_a0.map zl), .int .i64 most_a1] (.bool res) := by
 unfold qbw at hr
 refine q7 [(0, .lst (l_a0.map zl)), (1, .int .i64 most_a1)] Tryz.func6 rfl rfl fun K hK => (qk (gr [.d] (rc rfl (qg (qk (qk (gr [.d] (rc rfl (qg ?_)))))))))
 obtain ⟨kk0, hkk0, hr⟩ := exK (fun k => qaH k l_a0 most_a1) hr
 refine qfb 0 rfl (asl rfl) fun hla0 => ?_
 simp only [List.length_map] at hla0
 refine qaW (fun env σ => ∃ (most_3 : Int), env = [(1, .int .i64 most_3)] ∧ σ = [] ∧ kk0 most_3 = some res) ?_ (fun HK0 => ?_)
 ·
  rintro _ _ ⟨most_3, rfl, rfl, hr⟩
  rw [hkk0] at hr
  refine qk (gr [.d, .d, .d] (rf rfl (rd rfl (qV rfl rfl rfl rfl) (rc rfl (qg ?_)))))
  obtain rfl := Option.some.inj hr
  refine qS Tryz.func6 _ (.cons (za rfl (Wk.refl _)) .nil) ?_
  rfl
 ·
  refine qal [(0, .lst (l_a0.map zl)), (1, .int .i64 most_a1), (5, .int .i64 ((0 : Nat) : Int))] (sc rfl (sc rfl (sc rfl (Sub.nil _)))) (qcc (fun n env σ => ∃ (most_1 : Int) (i_2 : Nat), (n = l_a0.length - i_2) ∧ (env = [(0, .lst (l_a0.map zl)), (1, .int .i64 most_1), (5, .int .i64 (i_2 : Int))]) ∧ (σ = []) ∧ (i_2 ≤ l_a0.length) ∧ (qaH kk0 (l_a0.drop i_2) most_1 = some res)) _ ⟨most_a1, 0, rfl, rfl, rfl, Nat.zero_le _, hr⟩ ?_)
  rintro n _ _ ⟨most_1, i_2, rfl, rfl, rfl, hi0, hr⟩ IH0
  rcases zh l_a0 i_2 hi0 with ⟨ht0, hd0, he0⟩ | ⟨q_4, ht0, hd0, hq0, hlt0⟩
  ·
   rw [hd0, qaH] at hr
   refine qk (qk (gr [.d, .d, .d, .d, .d, .d, .d, .d] (rf rfl (rf rfl (rd rfl (qbd (f := zl) l_a0 rfl qO rfl (asl rfl)) (rd rfl (qV rfl rfl rfl rfl) (rf rfl (qdS 10 false rfl ht0 (rh rfl (rh rfl (rd rfl (qN rfl rfl rfl) (qg (qA rfl ?_)))))))))))))
   refine qbB rfl (qal [(1, .int .i64 most_1)] (sc rfl (Sub.nil _)) ?_)
   exact HK0 _ _ ⟨most_1, rfl, rfl, hr⟩
  ·
   rw [hd0, qaH] at hr
   refine qk (qk (gr [.d, .d, .d, .d, .d, .d, .d, .d] (rf rfl (rf rfl (rd rfl (qbd (f := zl) l_a0 rfl qO rfl (asl rfl)) (rd rfl (qV rfl rfl rfl rfl) (rf rfl (qdS 10 true rfl ht0 (rf rfl (rd rfl (qV rfl rfl rfl rfl) (rd rfl (qP rfl rfl rfl) (qg ?_))))))))))))
   refine zq 13 rfl hr (fun h13_4 hr => ?_) (fun h13_4 hr => ?_)
   ·
    refine qy rfl (qU (qk (qaP (ga [(0, .d), (1, .d), (2, .d), (3, .d), (4, .d), (5, .d), (6, .d), (7, .d), (8, .d), (9, .d), (10, .d), (11, .d), (12, .d), (13, .d), (14, .d), (15, .d), (16, .d)] (rf rfl (rf rfl (rd rfl (qB (f := zl) l_a0 rfl qO rfl (asl rfl) rfl hq0 qb6 rfl) (rd rfl (qi rfl qcB rfl rfl rfl rfl) (rd rfl (qn rfl rfl (by exact qT) rfl) (rf rfl (rd rfl (qdK rfl rfl rfl rfl) (rf rfl (rf rfl ?_)))))))))))))
    refine rd rfl (qB (f := zl) l_a0 rfl qO rfl (asl rfl) rfl hq0 qb6 rfl) (rd rfl (qi rfl qht rfl rfl rfl rfl) (rd rfl (qn rfl rfl (by exact qbr) rfl) (rd rfl (qpR rfl Tryz.underlying9 rfl) (rd rfl (qnZ rfl rfl rfl (by decide)) (rd rfl (qdK rfl rfl rfl rfl) ?_)))))
    obtain ⟨r_6, hr_6, hr⟩ := zb hr
    refine rd rfl (qM rfl qe5 (.oc rfl (.oc rfl (.oc rfl .nil))) (qe4 _ _ _ _ hr_6)) (rc rfl (qg (qK (gr [.d, .d, .d] (rf rfl (rd rfl (zZ (r := ((i_2 + 1 : Nat) : Int)) rfl rfl rfl (by simp [iar]) (by omega)) (rc rfl (qg (qal [(0, .lst (l_a0.map zl)), (1, .int .i64 r_6), (5, .int .i64 ((i_2 + 1 : Nat) : Int))] (sc rfl (sc rfl (sc rfl (Sub.nil _)))) ?_)))))))))
    exact IH0 _ _ _ (by omega) ⟨r_6, (i_2 + 1), rfl, rfl, rfl, (by omega), hr⟩
   ·
    refine qA rfl (qbB rfl (qal [(1, .int .i64 most_1)] (sc rfl (Sub.nil _)) ?_))
    exact HK0 _ _ ⟨most_1, rfl, rfl, hr⟩
noncomputable def qaI (k : (Int) → Option (Bool)) : List Gl → Int → Option (Bool)
 | [], most_1 =>
 (k most_1)
 | q_4 :: rest, most_1 =>
 (bif (decide (most_1 ≥ (0 : Int))) then
 ((qj3 q_4.ts (wr ((wr (most_1 - (1 : Int))) - (wr (Int.tdiv (q_4.n.size : Int) 8)))) 64).bind fun r_6 =>
 (qaI k rest r_6))
 else
 (k most_1))
noncomputable def qbR (l_a0 : (List Gl)) (most_a1 : Int) : Option (Bool) :=
 (qaI (fun most_3 =>
 some ((decide (most_3 < (0 : Int))))) l_a0 most_a1)
set_option maxHeartbeats 1000000 in
theorem qd5 (l_a0 : (List Gl)) (most_a1 : Int) (res : Bool) (hr : qbR l_a0 most_a1 = some res) : zi Tryz.prog 11 [.lst (l_a0.map zk), .int .i64 most_a1] (.bool res) := by
 unfold qbR at hr
 refine q7 [(0, .lst (l_a0.map zk)), (1, .int .i64 most_a1)] Tryz.func11 rfl rfl fun K hK => (qk (gr [.d] (rc rfl (qg (qk (qk (gr [.d] (rc rfl (qg ?_)))))))))
 obtain ⟨kk0, hkk0, hr⟩ := exK (fun k => qaI k l_a0 most_a1) hr
 refine qfb 0 rfl (asl rfl) fun hla0 => ?_
 simp only [List.length_map] at hla0
 refine qaW (fun env σ => ∃ (most_3 : Int), env = [(1, .int .i64 most_3)] ∧ σ = [] ∧ kk0 most_3 = some res) ?_ (fun HK0 => ?_)
 ·
  rintro _ _ ⟨most_3, rfl, rfl, hr⟩
  rw [hkk0] at hr
  refine qk (gr [.d, .d, .d] (rf rfl (rd rfl (qV rfl rfl rfl rfl) (rc rfl (qg ?_)))))
  obtain rfl := Option.some.inj hr
  refine qS Tryz.func11 _ (.cons (za rfl (Wk.refl _)) .nil) ?_
  rfl
 ·
  refine qal [(0, .lst (l_a0.map zk)), (1, .int .i64 most_a1), (5, .int .i64 ((0 : Nat) : Int))] (sc rfl (sc rfl (sc rfl (Sub.nil _)))) (qcc (fun n env σ => ∃ (most_1 : Int) (i_2 : Nat), (n = l_a0.length - i_2) ∧ (env = [(0, .lst (l_a0.map zk)), (1, .int .i64 most_1), (5, .int .i64 (i_2 : Int))]) ∧ (σ = []) ∧ (i_2 ≤ l_a0.length) ∧ (qaI kk0 (l_a0.drop i_2) most_1 = some res)) _ ⟨most_a1, 0, rfl, rfl, rfl, Nat.zero_le _, hr⟩ ?_)
  rintro n _ _ ⟨most_1, i_2, rfl, rfl, rfl, hi0, hr⟩ IH0
  rcases zh l_a0 i_2 hi0 with ⟨ht0, hd0, he0⟩ | ⟨q_4, ht0, hd0, hq0, hlt0⟩
  ·
   rw [hd0, qaI] at hr
   refine qk (qk (gr [.d, .d, .d, .d, .d, .d, .d, .d] (rf rfl (rf rfl (rd rfl (qbd (f := zk) l_a0 rfl qH rfl (asl rfl)) (rd rfl (qV rfl rfl rfl rfl) (rf rfl (qdS 10 false rfl ht0 (rh rfl (rh rfl (rd rfl (qN rfl rfl rfl) (qg (qA rfl ?_)))))))))))))
   refine qbB rfl (qal [(1, .int .i64 most_1)] (sc rfl (Sub.nil _)) ?_)
   exact HK0 _ _ ⟨most_1, rfl, rfl, hr⟩
  ·
   rw [hd0, qaI] at hr
   refine qk (qk (gr [.d, .d, .d, .d, .d, .d, .d, .d] (rf rfl (rf rfl (rd rfl (qbd (f := zk) l_a0 rfl qH rfl (asl rfl)) (rd rfl (qV rfl rfl rfl rfl) (rf rfl (qdS 10 true rfl ht0 (rf rfl (rd rfl (qV rfl rfl rfl rfl) (rd rfl (qP rfl rfl rfl) (qg ?_))))))))))))
   refine zq 13 rfl hr (fun h13_4 hr => ?_) (fun h13_4 hr => ?_)
   ·
    refine qy rfl (qU (qk (qaP (ga [(0, .d), (1, .d), (2, .d), (3, .d), (4, .d), (5, .d), (6, .d), (7, .d), (8, .d), (9, .d), (10, .d), (11, .d), (12, .d), (13, .d), (14, .d), (15, .d), (16, .d)] (rf rfl (rf rfl (rd rfl (qB (f := zk) l_a0 rfl qH rfl (asl rfl) rfl hq0 qbu rfl) (rd rfl (qi rfl qcm rfl rfl rfl rfl) (rd rfl (qn rfl rfl (by exact qT) rfl) (rf rfl (rd rfl (qdK rfl rfl rfl rfl) (rf rfl (rf rfl ?_)))))))))))))
    refine rd rfl (qB (f := zk) l_a0 rfl qH rfl (asl rfl) rfl hq0 qbu rfl) (rd rfl (qi rfl qiW rfl rfl rfl rfl) (rd rfl (qn rfl rfl (by exact qbr) rfl) (rd rfl (qpR rfl Tryz.underlying9 rfl) (rd rfl (qnZ rfl rfl rfl (by decide)) (rd rfl (qdK rfl rfl rfl rfl) ?_)))))
    obtain ⟨r_6, hr_6, hr⟩ := zb hr
    refine rd rfl (qM rfl qe5 (.oc rfl (.oc rfl (.oc rfl .nil))) (qe4 _ _ _ _ hr_6)) (rc rfl (qg (qK (gr [.d, .d, .d] (rf rfl (rd rfl (zZ (r := ((i_2 + 1 : Nat) : Int)) rfl rfl rfl (by simp [iar]) (by omega)) (rc rfl (qg (qal [(0, .lst (l_a0.map zk)), (1, .int .i64 r_6), (5, .int .i64 ((i_2 + 1 : Nat) : Int))] (sc rfl (sc rfl (sc rfl (Sub.nil _)))) ?_)))))))))
    exact IH0 _ _ _ (by omega) ⟨r_6, (i_2 + 1), rfl, rfl, rfl, (by omega), hr⟩
   ·
    refine qA rfl (qbB rfl (qal [(1, .int .i64 most_1)] (sc rfl (Sub.nil _)) ?_))
    exact HK0 _ _ ⟨most_1, rfl, rfl, hr⟩
noncomputable def qaV (k : Option (Bool)) (l_a0 : (List qG)) (most_a1 : Int) : List qG → Option (Bool)
 | [] =>
 k
 | q_2 :: rest =>
 (bif (decide ((l_a0.length : Int) > most_a1)) then
 some (true)
 else
 (bif (decide ((wr ((wr ((wr (Int.tdiv (q_2.f0_Name.size : Int) 8)) + (q_2.f1_Keep.length : Int))) + (q_2.f2_Remove.length : Int))) > most_a1)) then
 some (true)
 else
 ((qbw q_2.f1_Keep most_a1).bind fun r_6 =>
 (bif r_6 then
 some (true)
 else
 ((qbw q_2.f2_Remove most_a1).bind fun r_8 =>
 (bif r_8 then
 some (true)
 else
 ((qbR q_2.f3_Guard most_a1).bind fun r_10 =>
 (bif r_10 then
 some (true)
 else
 ((qbR q_2.f4_Body most_a1).bind fun r_12 =>
 (bif r_12 then
 some (true)
 else
 (qaV k l_a0 most_a1 rest)))))))))))
noncomputable def qb9 (l_a0 : (List qG)) (most_a1 : Int) : Option (Bool) :=
 (qaV (some (false)) l_a0 most_a1 l_a0)
set_option maxHeartbeats 1000000 in
theorem qfG (l_a0 : (List qG)) (most_a1 : Int) (res : Bool) (hr : qb9 l_a0 most_a1 = some res) : zi Tryz.prog 4 [.lst (l_a0.map qp), .int .i64 most_a1] (.bool res) := by
 unfold qb9 at hr
 refine q7 [(0, .lst (l_a0.map qp)), (1, .int .i64 most_a1)] Tryz.func4 rfl rfl fun K hK => (qk (gr [.d] (rc rfl (qg (qk (qk (gr [.d] (rc rfl (qg ?_)))))))))
 obtain ⟨kk0, hkk0, hr⟩ := exK (fun k => qaV k l_a0 most_a1 l_a0) hr
 refine qfb 0 rfl (asl rfl) fun hla0 => ?_
 simp only [List.length_map] at hla0
 refine qaW (fun env σ => env = [] ∧ σ = [] ∧ kk0 = some res) ?_ (fun HK0 => ?_)
 ·
  rintro _ _ ⟨rfl, rfl, hr⟩
  rw [hkk0] at hr
  refine qk (gr [.d] (rc rfl (qg ?_)))
  obtain rfl := Option.some.inj hr
  refine qS Tryz.func4 _ (.cons (za rfl (Wk.refl _)) .nil) ?_
  rfl
 ·
  refine qal [(0, .lst (l_a0.map qp)), (1, .int .i64 most_a1), (5, .int .i64 ((0 : Nat) : Int))] (sc rfl (sc rfl (sc rfl (Sub.nil _)))) (qcc (fun n env σ => ∃ (i_1 : Nat), (n = l_a0.length - i_1) ∧ (env = [(0, .lst (l_a0.map qp)), (1, .int .i64 most_a1), (5, .int .i64 (i_1 : Int))]) ∧ (σ = []) ∧ (i_1 ≤ l_a0.length) ∧ (qaV kk0 l_a0 most_a1 (l_a0.drop i_1) = some res)) _ ⟨0, rfl, rfl, rfl, Nat.zero_le _, hr⟩ ?_)
  rintro n _ _ ⟨i_1, rfl, rfl, rfl, hi0, hr⟩ IH0
  rcases zh l_a0 i_1 hi0 with ⟨ht0, hd0, he0⟩ | ⟨q_2, ht0, hd0, hq0, hlt0⟩
  ·
   rw [hd0, qaV] at hr
   refine qk (qk (gr [.d, .d, .d, .d] (rf rfl (rf rfl (rd rfl (qbd (f := qp) l_a0 rfl qfh rfl (asl rfl)) (rd rfl (qV rfl rfl rfl rfl) (qg (qaJ 10 false rfl ht0 (qA rfl (qbB rfl (qal [] (Sub.nil _) ?_)))))))))))
   exact HK0 _ _ ⟨rfl, rfl, hr⟩
  ·
   rw [hd0, qaV] at hr
   refine qk (qk (gr [.d, .d, .d, .d] (rf rfl (rf rfl (rd rfl (qbd (f := qp) l_a0 rfl qfh rfl (asl rfl)) (rd rfl (qV rfl rfl rfl rfl) (qg (qaJ 10 true rfl ht0 (qy rfl (qU (qk (qaP (qk ?_)))))))))))))
   refine gr [.d, .d, .d, .d, .w, .w] (rf rfl (rf rfl (rd rfl (qB (f := qp) l_a0 rfl qfh rfl (asl rfl) rfl hq0 qab rfl) (rd rfl (qn rfl rfl (by exact qai) (qab _)) (ew rfl (qY rfl qeS) ?_)))))
   rintro _ _ ⟨b6_2, rfl, rfl⟩
   refine eqR rfl (qt _ rfl rfl rfl (Wk.refl _) (pf0 _) (by exact qai) (qab _) rfl rfl) (qg (qbS 6 b6_2 rfl (pf0 _) (qk (gr [.d, .d, .d, .d, .d, .d, .d, .d, .d, .d, .d, .d, .d, .d, .d, .d, .d, .d, .d, .d, .d, .d, .d, .d, .d, .d, .d, .d, .d, .d, .d, .d, .d, .d, .d, .d, .d, .d, .d, .d, .d, .d, .d, .d] (rf rfl (rd rfl (qbd (f := qp) l_a0 rfl qfh rfl (asl rfl)) (rf rfl (rd rfl (qV rfl rfl rfl rfl) (rf rfl ?_)))))))))
   refine zJ 21 rfl hr (fun h21_3 hr => ?_) (fun h21_3 hr => ?_)
   ·
    refine rh rfl (rh rfl (rh rfl (rh rfl (rh rfl (rh rfl (rh rfl (rh rfl (rh rfl (rh rfl (rh rfl (rh rfl (rh rfl (rh rfl ?_)))))))))))))
    refine rd rfl (qP rfl rfl rfl) (rf rfl (rh rfl (rh rfl (rh rfl (rh rfl (rd rfl (qP rfl rfl rfl) (rf rfl (rh rfl (rh rfl (rh rfl (rh rfl (rd rfl (qP rfl rfl rfl) (rf rfl ?_)))))))))))))
    refine rh rfl (rh rfl (rh rfl (rh rfl (rd rfl (qP rfl rfl rfl) (rf rfl (rh rfl (rh rfl (rh rfl (rh rfl (rd rfl (qP rfl rfl rfl) (qg (qy rfl (qk ?_)))))))))))))
    refine gr [.d] (rc rfl (qg ?_))
    obtain rfl := Option.some.inj hr
    refine qS Tryz.func4 _ (.cons (za rfl (Wk.refl _)) .nil) ?_
    rfl
   ·
    refine rd rfl (qi rfl qfm rfl rfl rfl rfl) (rd rfl (qn rfl rfl (by exact qbr) rfl) (rd rfl (qpR rfl Tryz.underlying9 rfl) (rd rfl (qnZ rfl rfl rfl (by decide)) (rd rfl (qi rfl qat rfl rfl rfl rfl) (rd rfl (qn rfl rfl (by exact qw) rfl) (rd rfl (qbd (f := zl) q_2.f1_Keep rfl qO rfl (asl rfl)) (rd rfl (qdK rfl rfl rfl rfl) (rd rfl (qi rfl qas rfl rfl rfl rfl) (rd rfl (qn rfl rfl (by exact qw) rfl) (rd rfl (qbd (f := zl) q_2.f2_Remove rfl qO rfl (asl rfl)) (rd rfl (qdK rfl rfl rfl rfl) (rf rfl (rd rfl (qV rfl rfl rfl rfl) ?_)))))))))))))
    refine rd rfl (qN rfl rfl rfl) (rf rfl ?_)
    refine zJ 37 rfl hr (fun h37_4 hr => ?_) (fun h37_4 hr => ?_)
    ·
     refine rh rfl (rh rfl (rh rfl (rh rfl (rd rfl (qP rfl rfl rfl) (rf rfl (rh rfl (rh rfl (rh rfl (rh rfl (rd rfl (qP rfl rfl rfl) (rf rfl (rh rfl (rh rfl ?_)))))))))))))
     refine rh rfl (rh rfl (rd rfl (qP rfl rfl rfl) (rf rfl (rh rfl (rh rfl (rh rfl (rh rfl (rd rfl (qP rfl rfl rfl) (qg (qy rfl (qk (gr [.d] (rc rfl ?_)))))))))))))
     refine qg ?_
     obtain rfl := Option.some.inj hr
     refine qS Tryz.func4 _ (.cons (za rfl (Wk.refl _)) .nil) ?_
     rfl
    ·
     refine rd rfl (qi rfl qat rfl rfl rfl rfl) (rd rfl (qn rfl rfl (by exact qw) rfl) (rf rfl ?_))
     obtain ⟨r_6, hr_6, hr⟩ := zb hr
     refine rd rfl (qM rfl qdg (.oc rfl (.oc rfl .nil)) (qdj _ _ _ hr_6)) (rd rfl (qN rfl rfl rfl) (rf rfl ?_))
     refine zJ 43 rfl hr (fun h43_6 hr => ?_) (fun h43_6 hr => ?_)
     ·
      refine rh rfl (rh rfl (rh rfl (rh rfl (rd rfl (qP rfl rfl rfl) (rf rfl (rh rfl (rh rfl (rh rfl (rh rfl (rd rfl (qP rfl rfl rfl) (rf rfl (rh rfl (rh rfl ?_)))))))))))))
      refine rh rfl (rh rfl (rd rfl (qP rfl rfl rfl) (qg (qy rfl (qk (gr [.d] (rc rfl (qg ?_))))))))
      obtain rfl := Option.some.inj hr
      refine qS Tryz.func4 _ (.cons (za rfl (Wk.refl _)) .nil) ?_
      rfl
     ·
      refine rd rfl (qi rfl qas rfl rfl rfl rfl) (rd rfl (qn rfl rfl (by exact qw) rfl) (rf rfl ?_))
      obtain ⟨r_8, hr_8, hr⟩ := zb hr
      refine rd rfl (qM rfl qdg (.oc rfl (.oc rfl .nil)) (qdj _ _ _ hr_8)) (rd rfl (qN rfl rfl rfl) (rf rfl ?_))
      refine zJ 49 rfl hr (fun h49_8 hr => ?_) (fun h49_8 hr => ?_)
      ·
       refine rh rfl (rh rfl (rh rfl (rh rfl (rd rfl (qP rfl rfl rfl) (rf rfl (rh rfl (rh rfl (rh rfl (rh rfl (rd rfl (qP rfl rfl rfl) (qg (qy rfl (qk ?_)))))))))))))
       refine gr [.d] (rc rfl (qg ?_))
       obtain rfl := Option.some.inj hr
       refine qS Tryz.func4 _ (.cons (za rfl (Wk.refl _)) .nil) ?_
       rfl
      ·
       refine rd rfl (qi rfl qao rfl rfl rfl rfl) (rd rfl (qn rfl rfl (by exact qE) rfl) (rf rfl ?_))
       obtain ⟨r_10, hr_10, hr⟩ := zb hr
       refine rd rfl (qM rfl qd9 (.oc rfl (.oc rfl .nil)) (qd5 _ _ _ hr_10)) (rd rfl (qN rfl rfl rfl) (rf rfl ?_))
       refine zJ 55 rfl hr (fun h55_10 hr => ?_) (fun h55_10 hr => ?_)
       ·
        refine rh rfl (rh rfl (rh rfl (rh rfl (rd rfl (qP rfl rfl rfl) (qg (qy rfl (qk (gr [.d] (rc rfl (qg ?_))))))))))
        obtain rfl := Option.some.inj hr
        refine qS Tryz.func4 _ (.cons (za rfl (Wk.refl _)) .nil) ?_
        rfl
       ·
        refine rd rfl (qi rfl qcQ rfl rfl rfl rfl) (rd rfl (qn rfl rfl (by exact qE) rfl) (rf rfl ?_))
        obtain ⟨r_12, hr_12, hr⟩ := zb hr
        refine rd rfl (qM rfl qd9 (.oc rfl (.oc rfl .nil)) (qd5 _ _ _ hr_12)) (rd rfl (qN rfl rfl rfl) (qg ?_))
        refine zq 60 rfl hr (fun h60_12 hr => ?_) (fun h60_12 hr => ?_)
        ·
         refine qy rfl (qk (gr [.d] (rc rfl (qg ?_))))
         obtain rfl := Option.some.inj hr
         refine qS Tryz.func4 _ (.cons (za rfl (Wk.refl _)) .nil) ?_
         rfl
        ·
         refine qA rfl (qU (qK (gr [.d, .d, .d] (rf rfl (rd rfl (zZ (r := ((i_1 + 1 : Nat) : Int)) rfl rfl rfl (by simp [iar]) (by omega)) (rc rfl (qg (qal [(0, .lst (l_a0.map qp)), (1, .int .i64 most_a1), (5, .int .i64 ((i_1 + 1 : Nat) : Int))] (sc rfl (sc rfl (sc rfl (Sub.nil _)))) ?_))))))))
         exact IH0 _ _ _ (by omega) ⟨(i_1 + 1), rfl, rfl, rfl, (by omega), hr⟩
section
variable {P : Program} {f : FuncId} {fn : Func} {K : Ctx} {R : D → St → Prop} {k : List Item} {env : Env} {σ τ : St} {p : Addr → Prop} {w : World}
theorem qkD {o o' : Ob} {b : Nat} {x : Obj} (x' : Obj) (h : Inv K p (o :: σ) w) (hb : o.blk = some b) (hb' : o'.blk = some b) (hx : w.heap[b]? = some x) (hc : x.isCells = false)
 (ho : (w.putObj b x').heap[b]? = some x' → zM p w p (w.putObj b x') → zbf p (w.putObj b x') o') : Inv K p (o' :: σ) (w.putObj b x') ∧ zM p w p (w.putObj b x') := by
 have hne : ∀ a, p a → a.block ≠ b := fun a ha e => by
  obtain ⟨v, hv⟩ := h.pub a ha
  obtain ⟨y, hy, hyc⟩ := cells_of_cell hv
  rw [e, hx] at hy
  injection hy with hy
  rw [hy, hyc] at hc
  cases hc
 have hg : zM p w p (w.putObj b x') := fun a ha => ⟨ha, qfz (World.putObj_heap_other (hne a ha))⟩
 have hat : (w.putObj b x').heap[b]? = some x' := World.putObj_heap_same (Array.getElem?_eq_some_iff.1 hx).1
 refine ⟨h.write hb hb' hg (fun a ha => .inl ha) (ho hat hg) (fun a ha => ?_) rfl rfl rfl (by simp) (fun j hj => World.putObj_heap_other hj), hg⟩
 obtain ⟨v, hv⟩ := h.pub a ha
 exact ⟨v, (hg a ha).2.trans hv⟩
def za9 (P : Program) (l : Nat) (ds : List D) (σ : St) (R : D → St → Prop) : Prop :=
 ∀ (w : World) (p : Addr → Prop) (vs : List Value), Inv (ctx w p σ) p σ w → zz p w ds vs →
  ∃ g tmps assign body, (Instr.yield l vs.toArray).run P w = .ok (.round l g tmps assign body) w ∧
   ∀ (c : Frame) (cs : List Frame), ∃ v w', Left (ctx w p σ) R (.returned v) w' ∧ Steps P (lone (Frame.round l g tmps assign body .normal) (c :: cs) w) (lone (c.finish v) cs w')
theorem zai {f : FuncId} {ds : List D} {R R' : D → St → Prop} (h : Spec P f ds σ R) (hR : ∀ d σ', R d σ' → R' d σ') : Spec P f ds σ R' := fun w p vs hi hv => (h w p vs hi hv).mono fun e w' hl => by
 rcases hl with ⟨v, d, σ', q, rfl, h1, h2, h3⟩ | ⟨v, d, σ', q, rfl, h1, h2⟩
 · exact .inl ⟨v, d, σ', q, rfl, hR d σ' h1, h2, h3⟩
 · exact .inr ⟨v, d, σ', q, rfl, h1, h2⟩
theorem zba {α : Type} (a b c : α) : [a, b, c].Perm [c, a, b] := List.perm_append_comm (l₁ := [a, b]) (l₂ := [c])
theorem qsN {o : Oper} {ρ : Operand → Option D} {l : Nat} {x : Operand} {args : Array Operand} {ats : Array TypeId} {σ1 : St} (τ : St) {ds : List D} (ho : o.op = .call { callee := .value x, args := args, argTypes := ats }) (hx : ρ x = some (.clo (.yield l) [] [])) (hO : zak ρ args.toList ds) (hσ : σ.Perm (σ1 ++ τ)) (hS : za9 P l ds σ1 R) : zas P o ρ σ fun d σ' => ∃ σ1', R d σ1' ∧ σ' = σ1' ++ τ := fun rd K p a w hi h => by
 have hv := hO.rep (p := p) (w := w) (a := a) fun y hy => h y (by rw [ho]; simp only [Op.operands, Call.operands]; exact Array.mem_append.2 (.inr (by simpa using hy)))
 have h1 := h x (by rw [ho]; simp [Op.operands, Call.operands]) _ hx
 simp only [Rep] at h1
 obtain ⟨fv, cv, h1, h2, h3⟩ := h1
 simp only [zz] at h2 h3
 subst h2 h3
 obtain ⟨g, tmps, assign, body, hy, hR⟩ := hS w p _ ((hi.perm hσ).enter) hv
 refine ⟨fun f _ => qkW _ f, ?_⟩
 have hrun : (o.semAt (fw rd).round a.eval).run P w = .ok (.round l g tmps assign body) w := by
  rw [Oper.semAt_eq _ _ _ fun c hc => by rw [ho] at hc; cases hc]
  unfold execOp
  rw [ho]
  simp only [resolve, h1, Deferred.ofValue, Sem.run_bind, Sem.run_pure, Result.andThen_ok, invoke]
  rw [show (#[] ++ args.map a.eval : Array Value) = (args.toList.map a.eval).toArray by apply Array.toList_inj.1; simp]
  exact hy
 rw [hrun]
 refine ⟨fun h => ?_, qkW _ _, fun c cs _ => ?_⟩
 · cases rd <;> cases h
 · obtain ⟨v, w', hL, hs⟩ := hR c cs
   refine ⟨.returned v, w', ?_, qk3 hs⟩
   obtain ⟨v1, hv1, v', d, σ', p', q1, q2, q3, q4, q5⟩ := ql3 (a := a) (dst := o.dst) hi hσ hL
   injection hv1 with hv1
   subst hv1
   exact ⟨v', d, σ', p', q1, q2, q3, q4, q5⟩
def zaq : Env → List Tmp → List D → Env
 | env, t :: ts, d :: ds => zaq ((t, d) :: env) ts ds
 | env, _, _ => env
theorem qk4 : ∀ (ts : List Tmp) (ds : List D) (vs : List Value) (env : Env) (tm : Array Value), zz p w ds vs → ts.length = ds.length → (∀ t ∈ ts, t < tm.size) → zK p w env { tmps := tm, defers := [] } →
 zK p w (zaq env ts ds) { tmps := (ts.zip vs).foldl (fun tmps (t, a) => tmps.setIfInBounds t a) tm, defers := [] } ∧ ((ts.zip vs).foldl (fun tmps (t, a) => tmps.setIfInBounds t a) tm).size = tm.size
 | [], [], _, env, tm, _, _, _, h => ⟨by simpa [zaq] using h, by simp⟩
 | t :: ts, d :: ds, vs, env, tm, hv, hl, ht, h => by
  simp only [zz] at hv
  obtain ⟨v, rest, rfl, h1, h2⟩ := hv
  simp only [zaq, List.zip_cons_cons, List.foldl_cons]
  have h3 : zK p w ((t, d) :: env) { tmps := tm.setIfInBounds t v, defers := [] } := h.put (dst := some t) h1 (fun t' e => by injection e with e; subst e; exact ht t (List.mem_cons_self ..))
  obtain ⟨h4, h5⟩ := qk4 ts ds rest _ _ h2 (by simpa using hl) (fun t' ht' => by simpa using ht t' (List.mem_cons_of_mem _ ht')) h3
  exact ⟨h4, by rw [h5]; simp⟩
 | [], _ :: _, _, _, _, _, hl, _, _ => by cases hl
 | _ :: _, [], _, _, _, _, hl, _, _ => by cases hl
theorem qna {l : Nat} {e0 : Env} {L : Loop} {ds : List D} {fnL : Func} (hps : L.params.toList.length = ds.length) (hfn : P.funcs[L.fn]? = some fnL) (hsz : fnL.ntmps ≤ L.tmps.size) (hlt : L.params.toList.all (fun t => decide (t < fnL.ntmps)) = true)
 (h : ∀ K, (K.F0 = fun b => b ∈ yN (.loop l e0 L :: σ)) → zg ⟨some l, [], [], .normal⟩ P L.fn fnL K R [.code L.assign, .beginRound, .code L.body] (zaq e0 L.params.toList ds) (.loop l e0 L :: σ)) : za9 P l ds (.loop l e0 L :: σ) R := fun w p vs hi hv => by
 obtain ⟨hL, hE⟩ := hi.ok _ (List.mem_cons_self ..)
 have hlen : vs.length = ds.length := by
  clear h hps hi hL hE
  induction ds generalizing vs with
  | nil => simp only [zz] at hv; subst hv; rfl
  | cons d ds ih =>
   simp only [zz] at hv
   obtain ⟨v, rest, rfl, _, h2⟩ := hv
   simp [ih rest h2]
 refine ⟨L.fn, _, L.assign, L.body, run_yield hL (by simpa [hlen] using hps.symm), fun c cs => ?_⟩
 obtain ⟨h1, h2⟩ := qk4 (p := p) (w := w) L.params.toList ds vs e0 L.tmps hv hps (fun t ht => Nat.lt_of_lt_of_le (by simpa using List.all_eq_true.1 hlt t ht) hsz) hE
 let b : Frame := { (default : Frame) with fn := L.fn, kind := .normal, roundOf := some l }
 have hz : (L.params.zip vs.toArray).foldl (fun tmps (t, a) => tmps.setIfInBounds t a) L.tmps = (L.params.toList.zip vs).foldl (fun tmps (t, a) => tmps.setIfInBounds t a) L.tmps := by
  rw [← Array.foldl_toList]; simp
 rw [hz]
 have hb0 : Frame.round l L.fn ((L.params.toList.zip vs).foldl (fun tmps (t, a) => tmps.setIfInBounds t a) L.tmps) L.assign L.body .normal = b.atR { tmps := (L.params.toList.zip vs).foldl (fun tmps (t, a) => tmps.setIfInBounds t a) L.tmps, defers := [] } [.code L.assign, .beginRound, .code L.body] := by
  simp [Frame.round, Frame.atR, b]
 rw [hb0]
 exact h (ctx w p _) rfl p _ w hi h1 (by rw [h2]; exact hsz) rfl b (c :: cs) rfl rfl rfl hfn c cs rfl
theorem qmX {l : Nat} {ms : List Nat} {e0 : Env} {L : Loop} (hr : L.state = .ready) (hσ : σ.Perm (.loop l e0 L :: τ)) (h : zg ⟨some l, ms, [], .normal⟩ P f fn K R k env (.loop l e0 { L with state := .busy } :: τ)) : zg ⟨some l, ms, [], .normal⟩ P f fn K R (.beginRound :: k) env σ := fun p a w hi hre hn hd b cs hb hk hro hf => by
 have hi := hi.perm hσ
 obtain ⟨hL, hE⟩ := hi.ok _ (List.mem_cons_self ..)
 obtain ⟨h1, hg⟩ := qkD (o' := .loop l e0 { L with state := .busy }) (.loop { L with state := .busy }) hi rfl rfl hL rfl fun h hg => ⟨h, fun t d ht => (hE t d ht).grow hg⟩
 exact .of_steps (.one (stepR_beginRound hro (run_beginRound hL hr))) (h p a _ h1 (hre.grow hg) hn hd b cs hb hk hro hf)
theorem qov {l : Nat} {ms : List Nat} {e0 : Env} {L : Loop} (hσ : σ.Perm (.loop l e0 L :: τ)) (h : R (.bool true) (.loop l e0 { L with state := .ready, pending := none } :: τ)) : zg ⟨some l, ms, [], .normal⟩ P f fn K R [] env σ := fun p a w hi hre hn hd b cs hb hk hro hf c cs' hc => by
 subst hc
 have hi := hi.perm hσ
 obtain ⟨hL, hE⟩ := hi.ok _ (List.mem_cons_self ..)
 obtain ⟨h1, hg⟩ := qkD (o' := .loop l e0 { L with state := .ready, pending := none }) (.loop { L with state := .ready, pending := none }) hi rfl rfl hL rfl fun h hg => ⟨h, fun t d ht => (hE t d ht).grow hg⟩
 exact ⟨.bool true, _, .inl ⟨_, _, _, p, rfl, h, by simp only [Rep], h1⟩, .one (stepR_round_end hro hk (run_endRound none hL))⟩
theorem qtw {l : Nat} {ms : List Nat} {e0 : Env} {L : Loop} (hσ : σ.Perm (.loop l e0 L :: τ)) (h : R (.bool false) (.loop l e0 { L with state := .done, pending := some .ret } :: τ)) : zg ⟨some l, ms, [], .normal⟩ P f fn K R (.code .ret :: k) env σ := fun p a w hi hre hn hd b cs hb hk hro hf c cs' hc => by
 subst hc
 have hi := hi.perm hσ
 obtain ⟨hL, hE⟩ := hi.ok _ (List.mem_cons_self ..)
 obtain ⟨h1, hg⟩ := qkD (o' := .loop l e0 { L with state := .done, pending := some .ret }) (.loop { L with state := .done, pending := some .ret }) hi rfl rfl hL rfl fun h hg => ⟨h, fun t d ht => (hE t d ht).grow hg⟩
 exact ⟨.bool false, _, .inl ⟨_, _, _, p, rfl, h, by simp only [Rep], h1⟩, .one (stepR_round_ret hro hk (run_endRound (some .ret) hL))⟩
def zaZ (f : FuncId) (tmps : Array Value) (ps : Array Tmp) (assign body : Code) (D : Nat) : Loop := { state := .ready, pending := none, fn := f, tmps, params := ps, assign, body, defers := D }
def mark (D : Nat) : Ob := .aux D (.deferred (some []))
theorem qiB {g : Operand} {ps : Array Tmp} {assign body : Code} {gf : FuncId} {cap : List D} {ms : List Nat} (J : Option Code → St → Prop) {σ1 : St} (τ : St) (hg : ev env g = some (.clo (.func gf) [] cap)) (ho : zar g = true) (hc : callee P gf) (hσ : σ.Perm (σ1 ++ τ))
 (hS : ∀ (l D : Nat) (tmps : Array Value), fn.ntmps ≤ tmps.size → Spec P gf (.clo (.yield l) [] [] :: cap) (.loop l env (zaZ f tmps ps assign body D) :: σ1) fun _ σ' => ∃ st jump σ1', st ≠ .busy ∧ σ' = .loop l env { zaZ f tmps ps assign body D with state := st, pending := jump } :: σ1' ∧ J jump σ1')
 (hk : ∀ D jump σ1', J jump σ1' → zg ⟨none, D :: ms, [], .normal⟩ P f fn K R ((jump.map Item.code).toList ++ k) env (mark D :: (σ1' ++ τ))) : zg ⟨none, ms, [], .normal⟩ P f fn K R (.code (.rangeFunc g ps assign body) :: k) env σ := fun p a w hi hre hn hd b cs hb hkd hro hf => by
 have hgv := qr0 hre hg ho
 simp only [Rep] at hgv
 obtain ⟨fs, lb, hgv, hfs, hlb⟩ := hgv
 simp only [zz] at hfs
 subst hfs
 obtain ⟨W1, hW1⟩ : ∃ W1, (w.alloc (.deferred (some []))).alloc (.loop (zaZ f a.tmps ps assign body w.heap.size)) = W1 := ⟨_, rfl⟩
 have hL1 : W1.heap[w.heap.size + 1]? = some (.loop (zaZ f a.tmps ps assign body w.heap.size)) := by
  rw [← hW1]; have := World.alloc_heap_new (w.alloc (.deferred (some []))) (.loop (zaZ f a.tmps ps assign body w.heap.size)); rwa [World.size_alloc] at this
 have hK1 : W1.heap[w.heap.size]? = some (.deferred (some [])) := by
  rw [← hW1]; exact (Below.heap_alloc _ _ _ (by simp)).trans (World.alloc_heap_new w _)
 have hgr : zM p w p W1 := by
  rw [← hW1]; exact (qdn hi.pub _).tr (qdn (hi.alloc _).pub _)
 have hi1 : Inv K p σ W1 := by rw [← hW1]; exact (hi.alloc _).alloc _
 have hnew : ∀ x, x ∈ yN σ → x < w.heap.size := fun x hx => hi.lt hx
 have hi2 : Inv K p (mark w.heap.size :: σ) W1 := hi1.more (o := mark w.heap.size) hK1 fun x hx => by
  simp only [mark, Ob.blk, Option.some.injEq] at hx
  subst hx
  exact ⟨.inl hi.size, fun h => absurd (hnew _ h) (Nat.lt_irrefl _)⟩
 have hi3 : Inv K p (.loop (w.heap.size + 1) env (zaZ f a.tmps ps assign body w.heap.size) :: mark w.heap.size :: σ) W1 := hi2.more ⟨hL1, fun t d ht => (hre t d ht).grow hgr⟩ fun x hx => by
  simp only [Ob.blk, Option.some.injEq] at hx
  subst hx
  refine ⟨.inl (Nat.le_succ_of_le hi.size), fun h => ?_⟩
  simp only [yN, List.filterMap_cons, mark, Ob.blk] at h
  rcases List.mem_cons.1 h with h | h
  · omega
  · exact absurd (hnew _ h) (by omega)
 have hp3 : (.loop (w.heap.size + 1) env (zaZ f a.tmps ps assign body w.heap.size) :: mark w.heap.size :: σ : St).Perm ((.loop (w.heap.size + 1) env (zaZ f a.tmps ps assign body w.heap.size) :: σ1) ++ (mark w.heap.size :: τ)) := by
  refine List.Perm.cons _ ?_
  refine (List.Perm.cons _ hσ).trans ?_
  exact (List.perm_middle (l₁ := σ1) (l₂ := τ) (a := mark w.heap.size)).symm
 have hcall := hS (w.heap.size + 1) w.heap.size a.tmps hn W1 p (.func (.yield (w.heap.size + 1)) #[] #[] :: lb) ((hi3.perm hp3).enter) (by
  simp only [zz]
  exact ⟨_, _, rfl, by simp only [Rep]; exact ⟨[], [], rfl, zz.nil _ _, zz.nil _ _⟩, hlb.grow hgr⟩)
 obtain ⟨e, w', fr, hL, hcomes, hfn, hleave⟩ := hcall (b.atR { a with defers := { target := .collected w.heap.size, args := #[] } :: a.defers } (.inRangeFunc (w.heap.size + 1) :: k) :: cs)
 obtain ⟨v, d, σ', p', rfl, ⟨st, jump, σ1', hst, rfl, hJ⟩, hv, hi'⟩ := hL.resolve_right fun ⟨_, _, _, _, _, h, _⟩ => h
 have hstep := stepR_rangeFunc (P := P) (b := b) (a := a) (k := k) (cs := cs) (w := w) (g := g) (ps := ps) (assign := assign) (body := body) (l := w.heap.size + 1) (mark := [{ target := .collected w.heap.size, args := #[] }]) (w₁ := W1) (w₁' := W1) (w₂ := W1) (d := { target := .fn (.func gf) lb.toArray, args := #[.func (.yield (w.heap.size + 1)) #[] #[]] }) (f := gf) (args := (.func (.yield (w.heap.size + 1)) #[] #[] :: lb).toArray)
  (by rw [← hW1, hro, hb]; exact run_enterLoop_outer _ _ _ _ _)
  (by simp only [resolve, hgv]; simp [go_sem])
  (by
   simp only [invoke]
   rw [qh7 hc]
   congr 2
   apply Array.toList_inj.1
   simp)
 have hi4 := (hi3.perm hp3).leave hi'
 obtain ⟨hL4, hE4⟩ := hi4.ok _ (List.mem_cons_self ..)
 obtain ⟨h5, hg5⟩ := qkD (o' := .aux (w.heap.size + 1) (.loop { zaZ f a.tmps ps assign body w.heap.size with state := .exhausted, pending := jump })) (.loop { zaZ f a.tmps ps assign body w.heap.size with state := .exhausted, pending := jump }) hi4 rfl rfl hL4 rfl fun h _ => h
 have hend := stepR_endRangeFunc (P := P) (b := b) (a := { a with defers := { target := .collected w.heap.size, args := #[] } :: a.defers }) (k := k) (cs := cs) (w := w') (run_endLoop hL4 hst)
 refine .of_steps (w1 := w'.putObj (w.heap.size + 1) (.loop { zaZ f a.tmps ps assign body w.heap.size with state := .exhausted, pending := jump })) (fr1 := b.atR { a with defers := { target := .collected w.heap.size, args := #[] } :: a.defers } ((jump.map Item.code).toList ++ k)) ?_ (hk w.heap.size jump σ1' hJ p' { a with defers := { target := .collected w.heap.size, args := #[] } :: a.defers } _ ?_ ?_ hn ?_ b cs hb hkd hro hf)
 · refine (Steps.one hstep).trans (Steps.trans hcomes ((Steps.one (step_leave_returned hleave)).trans ?_))
   rw [finish_atR_inRangeFunc]
   exact Steps.one hend
 · have := h5.tail
   refine this.perm ?_
   exact List.perm_middle (l₁ := σ1') (l₂ := τ) (a := mark w.heap.size)
 · exact (((hre.grow hgr).grow hi'.gr).grow hg5 : zK p' _ env a)
 · show _ :: a.defers = _
   rw [hd]; rfl
theorem qlX : ∀ (ms : List Nat) (w : World) (fr : Frame) (cs : List Frame), Inv K p (ms.map mark ++ τ) w → fr.mode ≠ .run → fr.defers = ms.map (fun D => { target := .collected D, args := #[] }) →
 ∃ w', Steps P (lone fr cs w) (lone { fr with defers := [] } cs w') ∧ Inv K p τ w' ∧ zM p w p w'
 | [], w, fr, cs, hi, hm, hd => ⟨w, by rw [show ({ fr with defers := [] } : Frame) = fr by rw [← (show fr.defers = [] from hd)]]; exact .refl _ _, hi, zM.refl p w⟩
 | D :: ms, w, fr, cs, hi, hm, hd => by
  have hD : w.heap[D]? = some (.deferred (some [])) := hi.ok (mark D) (by simp)
  obtain ⟨h1, hg⟩ := qkD (o := mark D) (o' := .aux D (.deferred none)) (.deferred none) hi rfl rfl hD rfl fun h _ => h
  have hs := step_collected (P := P) (cs := cs) (fr := fr) (d := { target := .collected D, args := #[] }) hm hd rfl (run_takeDeferred hD)
  obtain ⟨w', h2, h3, h4⟩ := qlX ms _ { fr with defers := [] ++ ms.map (fun D => { target := .collected D, args := #[] }) } cs h1.tail hm rfl
  exact ⟨w', (Steps.one hs).trans h2, h3, hg.tr h4⟩
theorem ql5 {ms : List Nat} (ds : List D) (hσ : σ.Perm (ms.map mark ++ τ)) (hds : zaf P env τ fn.results.toList ds) (hR : R (yP ds) τ) : zg ⟨none, ms, [], .normal⟩ P f fn K R (.code .ret :: k) env σ := fun p a w hi hr hn hd b cs hb hk hro hf => by
 obtain ⟨w', h1, h2, h3⟩ := qlX (P := P) ms w { b.atR a (.code .ret :: k) with mode := .returning } cs (hi.perm hσ) (by simp) hd
 refine .of_steps ((Steps.one (stepR_ret hro)).trans h1) ?_
 have hr' : zK p w' env { tmps := a.tmps, defers := [] } := hr.grow h3
 obtain ⟨e, q1, q2, q3⟩ := qnh (R := R) (a := { tmps := a.tmps, defers := [] }) h2 hr' rfl hf hds hR b hb hk (.code .ret :: k)
 refine ⟨e, w', { b.atR { tmps := a.tmps, defers := [] } (.code .ret :: k) with mode := .returning }, q1, ?_, hb, q2⟩
 cases e with
 | returned v => exact Steps.refl _ _
 | panicked c => exact Steps.refl _ _
 | outgrown => exact absurd rfl q3
end
end Go.Proofs.YtabbfihjeppbhaaGreat
