/-
  Texts of the seat, merged.
-/
import Derived.Test.YthcgefbigimgoaaLAA
import Derived.Test.YthcgefbigimgoaaLAB
import Derived.Test.YthcgefbigimgoaaChecked
import Derived.WalkKit
import Derived.Lib.Hide
import Derived.Lib.AppendStr
import Derived.Deep.AppendLies
import Derived.Deep.AppendSrc
import Derived.Deep.Draws
import Derived.Deep.QuietTactic
import Derived.BigQuiet
import Derived.Deep.RegionWith
import Derived.Maps.AppendAt
import Derived.WalkSpells
import Derived.Orders
import Derived.Deep.Slices
import Derived.Deep.Fields
import Derived.ChangeArms
import Derived.Lib.OthersKept
import Derived.Lib.TrimU
import Derived.Lib.IndexAny
import Derived.Deep.LoopGhost
import Derived.Lib.Bytealg
import Derived.RangeFuncBox
import Derived.RangeFuncNested
import Derived.RangeFuncBound
import Derived.RangeFuncCalls
import Derived.RangeFuncLeaves
import Derived.Shelf.Abstract
import Derived.OwnWalkIn
import Derived.TacticsInMore
import Derived.LoopNIn
import Derived.LoopIn
import Derived.RangeFuncWrites
import Derived.Maps.OwnIn
import Derived.Maps.Views
import Derived.Laws.OwnMore
import Derived.Maps.OwnSet
import Derived.Test.YthcgefbigimgoaaRows
import Derived.ProofKit
import Derived.OpenShut
import Derived.Carry
import Derived.Great.BuildSlice
import Derived.ArgAppend
import Derived.Laws.MakeOwn
import Derived.Laws.Cover3
import Derived.Laws.CopyRow
import Derived.MapKept
import Derived.Maps.RangeRun
set_option linter.unusedVariables false
set_option linter.unusedSimpArgs false
set_option linter.unnecessarySimpa false
set_option linter.all false

namespace Go.Proofs.Ythcgefbigimgoaa
set_option maxRecDepth 100000
open Go.RowKit

def blkOf (u : Value) : Nat := u.ownBlock.getD 0
theorem vec_arr {p : Addr → Prop} {w : World} {u : Value} {l : List D} {e : TypeId} {s : Nat} (h : ObOk p w (.vec u l e s)) (hl : l ≠ []) :
    ∃ g cap xs junk, u = .slice (some ⟨g, 0, none⟩) l.length cap ∧ Reps p w l xs ∧ (∀ x ∈ xs, x.oneCell' = true) ∧ w.heap[g]? = some (.cells (xs ++ junk).toArray e (0, 0)) ∧ (∀ a, p a → a.block ≠ g) ∧ l.length ≤ cap ∧ cap ≤ maxLen ∧ (xs ++ junk).length = cap * s := by
  obtain ⟨h1, h2, ⟨xs, ⟨h3, h4⟩, h5, h6⟩, h7⟩ := h
  rcases h4 with ⟨_, h4⟩ | ⟨g, cap, cur, rfl, _, k1, k2, k3, k4, k5⟩
  · exact absurd (List.eq_nil_of_length_eq_zero h4) hl
  · have e1 : xs ++ cur.toList.drop (l.length * s) = cur.toList := by rw [← k5, List.take_append_drop]
    exact ⟨g, cap, xs, cur.toList.drop (l.length * s), rfl, h5, h6, by rw [e1]; simpa using k1, h7 g rfl, k2, k3, by rw [e1]; simpa using k4⟩
section
variable {P : Program} {o : Oper} {ρ : Operand → Option D} {d : D}
theorem s_lenV {x : Operand} {t e : TypeId} {u : Value} {n : Nat} (ho : o.op = .call { callee := .builtin .len, args := #[x], argTypes := #[t] }) (ht : P.underlying t = some (.slice e)) (hx : ρ x = some (.vec u n)) : StepD P o ρ (.int .i64 (n : Int)) := stepD_of fun p a w h => by
  have h1 := h x (by rw [ho]; simp [Op.operands, Call.operands]) _ hx
  simp only [Rep] at h1
  obtain ⟨h1, A, c, rfl, h2, h3⟩ := h1
  refine ⟨.int .i64 (n : Int), ?_, by simpa only [Rep, true_and] using wrap64 (by omega)⟩
  unfold execOp
  rw [ho]
  simp [resolve, invoke, builtin, h1, Builtin.len_, run_underlying ht, goInt]
theorem s_indexVec {t e : TypeId} {x ix : Operand} {s by_ n : Nat} {u : Value} {k : IntKind} {m : Int} {σ : St} {l : List D} (j : Nat) (ho : o.op = .indexAddr t x ix) (hE : ElT P t e s by_) (hx : ρ x = some (.vec u n)) (hix : ρ ix = some (.int k m)) (hm : m = (j : Int)) (hj : j < l.length) (hσ : .vec u l e s ∈ σ) : StepS P o ρ σ fun d' σ' => d' = .mref (blkOf u) j s 0 [] ∧ σ' = σ := fun K p a w hi h => by
  have hne : l ≠ [] := fun e => by rw [e] at hj; simp at hj
  obtain ⟨g, cap, xs, junk, rfl, g1, g2, g3, g4, g5, g6, g7⟩ := vec_arr (hi.ok _ hσ) hne
  have h1 := h x (by rw [ho]; simp [Op.operands]) _ hx
  have hn : n = l.length := by
    simp only [Rep] at h1
    obtain ⟨_, A, c, h2, _⟩ := h1
    injection h2 with _ h2
    exact h2.symm
  have h7 := h ix (by rw [ho]; simp [Op.operands]) _ hix
  simp only [Rep] at h1 h7
  obtain ⟨h1, _⟩ := h1
  subst hm hn
  obtain ⟨i, hii, hin⟩ := Option.map_eq_some_iff.1 hE.size
  have hr : (execOp a.eval o).run P w = .ok (.value (.pointer (some ⟨g, j * s + 0, none⟩))) w := by
    unfold execOp
    rw [ho]
    simp [h1, h7.1, Instr.indexAt, asIntOf, run_underlying hE.1, sizeOf, typeInfo, hii, hin, hj, addF]
  unfold Oper.wp
  rw [hr]
  exact ⟨_, .mref g j s 0 [], σ, p, rfl, ⟨rfl, rfl⟩, by simp only [Rep], hi, Grow.refl p w⟩
theorem s_appVec {x y : Operand} {t e : TypeId} {s by_ n : Nat} {σ τ : St} {u : Value} {l m : List D} {dy : D} (ho : o.op = .call { callee := .builtin .append, args := #[x, y], argTypes := #[t, t] }) (hE : ElT P t e s by_) (hx : ρ x = some (.vec u n)) (hy : ρ y = some dy) (hm : AsL dy m) (hσ : σ.Perm (.vec u l e s :: τ)) (hml : AllSz s m) (hb : (l.length + m.length) * by_ ≤ 140737488355328) (h63 : l.length + m.length ≤ 9223372036854775807) :
    StepS P o ρ σ fun d' σ' => ∃ u', d' = .vec u' (l ++ m).length ∧ σ' = .vec u' (l ++ m) e s :: τ := fun K p a w hi h => by
  rw [List.length_append]
  obtain ⟨hu, ⟨z, hz, hzs⟩, hs0⟩ := hE
  obtain ⟨i, hii, hz', hsize, hby⟩ := info_parts hz
  have hi' := hi.perm hσ
  have hxv := h x (by rw [ho]; simp [Op.operands, Call.operands]) _ hx
  simp only [Rep] at hxv
  obtain ⟨hvu, _⟩ := hxv
  have hob := hi'.ok _ (List.mem_cons_self ..)
  obtain ⟨hl, _, ⟨xs, ⟨k8, hopen⟩, k6, k7⟩, k9⟩ := hob
  obtain ⟨A, c, ys, g1, g2, g3, g4, g5, g6⟩ := hm.rep (h y (by rw [ho]; simp [Op.operands, Call.operands]) _ hy)
  have hyl : ys.length = m.length * s := by rw [g5.len, hml.szs]
  have hlm : AllSz s (l ++ m) := fun d hd => (List.mem_append.1 hd).elim (hl d) (hml d)
  have hrun0 : ∀ r, (Builtin.append_ #[t, t] o.type #[u, .slice A m.length c]).run P w = r → (execOp a.eval o).run P w = r.andThen fun v w' => .ok (.value v) w' := fun r hr => by
    subst hr
    unfold execOp
    simp only [ho, resolve, invoke, builtin, Sem.run_bind, Sem.run_pure, Result.andThen_ok, List.map_toArray, List.map_cons, List.map_nil, hvu, g1]
  have hmx : maxLen = 9223372036854775807 := rfl
  -- where nothing is appended
  by_cases hm0 : m.length = 0
  · have hm0' : m = [] := List.eq_nil_of_length_eq_zero hm0
    subst hm0'
    have hys : ys = [] := List.eq_nil_of_length_eq_zero (by simpa using hyl)
    have hrep : Rep p w (.vec u l.length) u := by
      simp only [Rep]
      refine ⟨trivial, ?_⟩
      rcases hopen with ⟨rfl, h0⟩ | ⟨g, cap, cur, rfl, _, k1, k2, k3, _⟩
      · exact ⟨none, 0, by rw [h0], by omega, by omega⟩
      · exact ⟨_, cap, rfl, k2, by omega⟩
    have hr : (Builtin.append_ #[t, t] o.type #[u, .slice A 0 c]).run P w = .ok u w := by
      rcases hopen with ⟨rfl, _⟩ | ⟨g, cap, cur, rfl, _, k1, k2, _⟩
      · cases A <;> simp [Builtin.append_, run_underlying hu, sizeOf, typeInfo, hii, Builtin.lenOf, Builtin.firstCells, loadCells, loadCellsFrom]
      · cases A <;> simp [Builtin.append_, run_underlying hu, sizeOf, typeInfo, hii, Builtin.lenOf, Builtin.firstCells, loadCells, loadCellsFrom, k2, storeCells]
    unfold Oper.wp
    rw [hrun0 _ hr]
    exact ⟨u, .vec u (l.length + 0), _, p, rfl, ⟨u, rfl, rfl⟩, hrep, by simpa using hi', Grow.refl p w⟩
  -- the cells that are appended
  · have hys : ys ≠ [] := fun hys => by
      rw [hys] at hyl
      have := Nat.mul_pos (Nat.pos_of_ne_zero hm0) hs0
      simp at hyl
      omega
    rcases g4 with g4 | ⟨b, o', rfl, hcell⟩
    · exact absurd g4 hys
    have hnews : ∀ j v, ys[j]? = some v → w.cell? ((⟨b, o', none⟩ : Addr).add j) = some v := fun j v hv => by rw [addF]; exact (hcell j v hv).2
    subst hsize
    subst hby
    have grown : ∀ (old : Nat), old < l.length + m.length →
        ∃ u', u' = .slice (some ⟨w.heap.size, 0, none⟩) (l.length + m.length) (grownCap w (l.length + m.length) old e) ∧ Rep p (w.drew.alloc (.cells (xs.toArray ++ ys.toArray ++ Builtin.zeroCells z.cells (grownCap w (l.length + m.length) old e - (l.length + m.length))) e)) (.vec u' (l.length + m.length)) u' ∧ Inv K p (.vec u' (l ++ m) e i.size :: τ) (w.drew.alloc (.cells (xs.toArray ++ ys.toArray ++ Builtin.zeroCells z.cells (grownCap w (l.length + m.length) old e - (l.length + m.length))) e)) ∧
          Grow p w p (w.drew.alloc (.cells (xs.toArray ++ ys.toArray ++ Builtin.zeroCells z.cells (grownCap w (l.length + m.length) old e - (l.length + m.length))) e)) := fun old hold => by
      have hge := grownCap_ge w (l.length + m.length) old e
      have hcm : grownCap w (l.length + m.length) old e ≤ maxLen := grownCap_le_maxLen w (l.length + m.length) old e (by unfold maxLen; omega)
      have hlen : (xs ++ ys).length = (l.length + m.length) * i.size := by rw [List.length_append, k8, hyl, Nat.add_mul]
      have hs1 : (xs.toArray ++ ys.toArray ++ Builtin.zeroCells z.cells (grownCap w (l.length + m.length) old e - (l.length + m.length))).size = grownCap w (l.length + m.length) old e * i.size := by
        simp only [Array.size_append, List.size_toArray, size_zeroCells, hzs, k8, hyl, ← Nat.add_mul]
        congr 1
        omega
      have ht1 : (xs.toArray ++ ys.toArray ++ Builtin.zeroCells z.cells (grownCap w (l.length + m.length) old e - (l.length + m.length))).toList.take ((l.length + m.length) * i.size) = xs ++ ys := by
        simp only [Array.toList_append, List.append_assoc]
        rw [← List.append_assoc, ← hlen]
        exact List.take_left
      generalize xs.toArray ++ ys.toArray ++ Builtin.zeroCells z.cells (grownCap w (l.length + m.length) old e - (l.length + m.length)) = cur at hs1 ht1 ⊢
      have gr : Grow p w p (w.drew.alloc (.cells cur e)) := (grow_drew p w).tr (grow_alloc hi'.tail.drew.pub _)
      refine ⟨_, rfl, ?_, ?_, gr⟩
      · simp only [Rep]
        exact ⟨trivial, _, _, rfl, hge, by omega⟩
      · refine (hi'.tail.drew.alloc (.cells cur e)).more ⟨hlm, hs0, ⟨xs ++ ys, ⟨by rw [hlen, List.length_append], .inr ⟨w.heap.size, _, cur, by rw [List.length_append], Nat.zero_le _, heap_alloc_new w.drew _, by rw [List.length_append]; exact hge, hcm, hs1, by rw [List.length_append]; exact ht1⟩⟩, (k6.app g5).grow gr, fun x hx => (List.mem_append.1 hx).elim (k7 x) (g6 x)⟩, fun g hg a ha hab => ?_⟩ fun b hb => ?_
        · simp only [Value.ownBlock, Option.some.injEq] at hg
          have hg : w.heap.size = g := hg
          obtain ⟨v, hv⟩ := hi.pub a ha
          have := cell_lt hv
          omega
        · simp only [Ob.blk, Value.ownBlock, Option.some.injEq] at hb
          have hb : w.heap.size = b := hb
          subst hb
          exact ⟨.inl hi.size, fun hm => by have := hi'.tail.lt hm; omega⟩
    have hmpos : 0 < m.length := Nat.pos_of_ne_zero hm0
    rcases hopen with ⟨rfl, h0⟩ | ⟨g, cap, cur, rfl, _, k1, k2, k3, k4, k5⟩
    · obtain rfl := List.eq_nil_of_length_eq_zero h0
      obtain rfl : xs = [] := List.eq_nil_of_length_eq_zero (by simpa using k8)
      have hr := run_append_nil (P := P) w t o.type e i z hu hii hz' ⟨b, o', none⟩ m.length c ys hyl hnews (by omega) (by omega) (by have hb := hb; simp only [List.length_nil, Nat.zero_add] at hb; omega)
      obtain ⟨u', hu', q1, q2, q3⟩ := grown 0 (by simp; omega)
      simp only [List.length_nil, Nat.zero_add, Array.empty_append, List.nil_append] at hr q1 q2 q3 hu' ⊢
      unfold Oper.wp
      rw [hrun0 _ hr]
      subst hu'
      exact ⟨_, _, _, p, rfl, ⟨_, rfl, rfl⟩, q1, q2, q3⟩
    · by_cases hroom : l.length + m.length ≤ cap
      · have hfit : l.length * i.size + ys.length ≤ cur.size := by rw [hyl, k4, ← Nat.add_mul]; exact Nat.mul_le_mul_right _ hroom
        have hr := run_append_room (P := P) w t o.type e i hu hii g l.length cap cur k1 ⟨b, o', none⟩ m.length c ys hyl hnews g6 hroom hfit
        unfold Oper.wp
        rw [hrun0 _ hr]
        generalize hnew : (cur.toList.take (l.length * i.size) ++ ys ++ cur.toList.drop (l.length * i.size + ys.length)) = new
        have hh := setRow_heap w g cur new.toArray e (0, 0) k1
        have htl : (cur.toList.take (l.length * i.size)).length = l.length * i.size := by rw [k5, k8]
        have hnewl : new.take ((l.length + m.length) * i.size) = xs ++ ys := by
          rw [← hnew, k5]
          have : (xs ++ ys).length = (l.length + m.length) * i.size := by rw [List.length_append, k8, hyl, Nat.add_mul]
          rw [← this]
          exact List.take_left
        have gr : Grow p w p (w.setRow g new.toArray) := fun a' ha => ⟨ha, cell_same (setRow_other w g _ _ (k9 g rfl a' ha))⟩
        have hle : (l.length + m.length) * i.size ≤ cap * i.size := Nat.mul_le_mul_right _ hroom
        have hnl : new.length = cap * i.size := by
          rw [← hnew]
          simp only [List.length_append, List.length_drop, htl, hyl, Array.length_toList, k4]
          rw [Nat.add_mul] at hle
          omega
        refine ⟨.slice (some ⟨g, 0, none⟩) (l.length + m.length) cap, .vec (.slice (some ⟨g, 0, none⟩) (l.length + m.length) cap) (l.length + m.length), _, p, rfl, ⟨_, rfl, rfl⟩, ?_, ?_, gr⟩
        · simp only [Rep]
          exact ⟨trivial, _, cap, rfl, hroom, by omega⟩
        · refine hi'.write (b := g) rfl rfl gr (fun a' ha => .inl ha) ⟨hlm, hs0, ⟨xs ++ ys, ⟨by rw [List.length_append, List.length_append, k8, hyl, Nat.add_mul], .inr ⟨g, cap, new.toArray, by rw [List.length_append], Nat.zero_le _, hh, by rw [List.length_append]; exact hroom, k3, by simpa using hnl, by rw [List.length_append]; simpa using hnewl⟩⟩, (k6.app g5).grow gr, fun x hx => (List.mem_append.1 hx).elim (k7 x) (g6 x)⟩, fun g' hg' a' ha hab => k9 g rfl a' ha (by simp only [Value.ownBlock, Option.some.injEq] at hg'; exact hab.trans hg'.symm)⟩ (fun a' ha => ?_) rfl rfl rfl (by simp) fun k hk => setRow_other w g k _ hk
          obtain ⟨v, hv⟩ := hi.pub a' ha
          exact ⟨v, by rw [(gr a' ha).2]; exact hv⟩
      · have holds : ∀ j v, xs[j]? = some v → w.cell? ((⟨g, 0, none⟩ : Addr).add j) = some v := fun j v hv => by
          rw [addF, Nat.zero_add, cell_of_row _ _ _ _ _ _ k1]
          have hj := (List.getElem?_eq_some_iff.1 hv).1
          rw [← k5, List.getElem?_take, if_pos (by omega)] at hv
          simpa using hv
        have hr := run_append_grow (P := P) w t o.type e i z hu hii hz' ⟨g, 0, none⟩ l.length cap xs k8 holds ⟨b, o', none⟩ m.length c ys hyl hnews (by omega) (by omega) (growslice_fits (by omega) hb)
        obtain ⟨u', hu', q1, q2, q3⟩ := grown cap (by omega)
        unfold Oper.wp
        rw [hrun0 _ hr]
        subst hu'
        exact ⟨_, _, _, p, rfl, ⟨_, rfl, rfl⟩, q1, q2, q3⟩
theorem t_loadV {t e : TypeId} {x : Operand} {n i s off : Nat} {u : Value} {path : List Nat} {σ : St} {l : List D} {d0 : D} (ho : o.op = .load t x) (hx : ρ x = some (.mref (blkOf u) i s off path)) (hσ : .vec u l e s ∈ σ) (hl : l[i]? = some d0) (hs : subD d0 path = some d) (hoff : offD d0 path = off) (ht : Ty P t d.isAgg n) (hn : sz d = n) : StepS P o ρ σ fun d' σ' => d' = d ∧ σ' = σ := fun K p a w hi h => by
  have h1 := h x (by rw [ho]; simp [Op.operands]) _ hx
  simp only [Rep] at h1
  obtain ⟨g, cap, xs, junk, rfl, g3, g4, g5, g6, _⟩ := vec_arr (hi.ok _ hσ) (fun h => by rw [h] at hl; simp at hl)
  have g1 : AllSz s l := (hi.ok _ hσ).1
  obtain ⟨v0, hv0, hc0⟩ := g3.at_cell hl
  obtain ⟨v, hv, hc⟩ := subD_rep hv0 hs
  have hmin : (l.take i).length = i := by have := (List.getElem?_eq_some_iff.1 hl).1; simp; omega
  rw [(g1.take i).szs, hmin] at hc0
  have hlr := run_loadVar (P := P) (b := g) (o := i * s + off) ht hn hv (fun j y hy => by
    rw [cell_of_row _ _ _ _ _ _ g5, ← hoff]
    have := hc0 _ y (hc j y hy)
    have hlt := (List.getElem?_eq_some_iff.1 this).1
    simp only [List.getElem?_toArray]
    rw [Nat.add_assoc, List.getElem?_append_left hlt]
    exact this)
  have hr : (execOp a.eval o).run P w = .ok (.value v) w := by
    unfold execOp
    rw [ho]
    simp [h1, blkOf, Value.ownBlock, Instr.loadAt, Instr.sureAddr, hlr]
  unfold Oper.wp
  rw [hr]
  exact ⟨v, d, σ, p, rfl, ⟨rfl, rfl⟩, hv, hi, Grow.refl p w⟩
theorem t_storeV {t e : TypeId} {x y : Operand} {n i s off : Nat} {u : Value} {path : List Nat} {σ : St} (τ : St) {l : List D} {d0 dOld dn : D} {ag : Bool} (ho : o.op = .store t x y) (hx : ρ x = some (.mref (blkOf u) i s off path)) (hy : ρ y = some dn) (hw : Wk dn d) (hσ : σ.Perm (.vec u l e s :: τ)) (hl : l[i]? = some d0) (hp0 : d0.plain = true) (hs : subD d0 path = some dOld) (hoff : offD d0 path = off) (ht : Ty P t ag n) (hn : sz d = n) (hn' : sz dOld = n) (hp : d.plain = true) : StepS P o ρ σ fun _ σ' => σ' = .vec u (l.set i (setD d0 path d)) e s :: τ := fun K p a w hi h => by
  have h1 := h x (by rw [ho]; simp [Op.operands]) _ hx
  simp only [Rep] at h1
  have h2 := hw _ _ _ (h y (by rw [ho]; simp [Op.operands]) _ hy)
  have hi' := hi.perm hσ
  have hob := hi'.ok _ (List.mem_cons_self ..)
  obtain ⟨b, cap, xs, junk, rfl, g3, g4, g5, g6, c1, c2, c3⟩ := vec_arr hob (fun h => by rw [h] at hl; simp at hl)
  obtain ⟨g1, g0, _, _⟩ := hob
  obtain ⟨ii, hii, hin⟩ := Option.map_eq_some_iff.1 ht.2
  have hsz : (a.eval y).cells.size = n := by rw [Rep.sz h2, hn]
  have hil := (List.getElem?_eq_some_iff.1 hl).1
  have hmin : (l.take i).length = i := by simp; omega
  obtain ⟨v0, hv0, hsplit, hlen1⟩ := g3.at_ hl
  obtain ⟨v', q1, q2, q3, q4, q5⟩ := setD_rep hv0 hs (by rw [hn, hn']) h2 hp hp0
  have hset := Reps.set g3 hl q5 q1
  rw [(g1.take i).szs, hmin] at hsplit hlen1 hset
  have hd0 : sz d0 = s := g1 d0 (List.mem_of_getElem? hl)
  have hv0l : v0.cells.toList.length = s := by rw [← hd0]; simpa using Rep.sz hv0
  have hxl : xs.length = l.length * s := by rw [g3.len, g1.szs]
  have hle : (i + 1) * s ≤ l.length * s := Nat.mul_le_mul_right s (by omega)
  rw [Nat.add_mul, Nat.one_mul] at hle
  have hst := run_storeCells_at (P := P) b (i * s + off) e (a.eval y).cells.toList 0 (xs ++ junk).toArray w g5 (by
    simp only [Array.length_toList, hsz, Nat.add_zero, List.size_toArray, List.length_append]
    rw [hd0, hn, hoff] at q4
    omega) (Rep.one h2 hp)
  have hrow : ((xs ++ junk).toArray.toList.take (i * s + off + 0) ++ (a.eval y).cells.toList ++ (xs ++ junk).toArray.toList.drop (i * s + off + 0 + (a.eval y).cells.toList.length)).toArray = ((xs.take (i * s) ++ v'.cells.toList ++ xs.drop (i * s + s)) ++ junk).toArray := by
    congr 1
    simp only [Nat.add_zero, Array.length_toList, hsz, ← hn]
    rw [q3, hoff]
    rw [hd0, hoff] at q4
    generalize hA : xs.take (i * s) = A at hsplit hlen1 ⊢
    generalize hB : xs.drop (i * s + s) = B
    rw [hd0, hB] at hsplit
    rw [hsplit]
    have e1 : (A ++ v0.cells.toList ++ B ++ junk).take (i * s + off) = A ++ v0.cells.toList.take off := by
      rw [← hlen1, List.append_assoc, List.append_assoc, List.take_length_add_append, List.take_append_of_le_length (by omega)]
    have e2 : (A ++ v0.cells.toList ++ B ++ junk).drop (i * s + off + sz d) = v0.cells.toList.drop (off + sz d) ++ (B ++ junk) := by
      rw [← hlen1, List.append_assoc, List.append_assoc, Nat.add_assoc, List.drop_length_add_append, List.drop_append_of_le_length (by omega)]
    rw [e1, e2]
    simp only [List.append_assoc]
  rw [hrow] at hst
  have hr : (execOp a.eval o).run P w = .ok .skip (w.setRow b ((xs.take (i * s) ++ v'.cells.toList ++ xs.drop (i * s + s)) ++ junk).toArray) := by
    unfold execOp
    rw [ho]
    simp only [h1, blkOf, Value.ownBlock, Option.getD_some, Instr.storeAt, Instr.sureAddr, storeVar, Sem.run_bind, Sem.run_pure, Result.andThen_ok, sizeOf, typeInfo, run_program, hii, hsz, hin, ne_eq, not_true_eq_false, if_false, hst]
  have gr : Grow p w p (w.setRow b ((xs.take (i * s) ++ v'.cells.toList ++ xs.drop (i * s + s)) ++ junk).toArray) := fun a' ha => ⟨ha, cell_same (setRow_other w b _ _ (g6 a' ha))⟩
  unfold Oper.wp
  rw [hr]
  refine ⟨Go.undef, .undef, _, p, rfl, rfl, by simp only [Rep], ?_, gr⟩
  rw [q5, hd0] at hset
  have hnl : (xs.take (i * s) ++ v'.cells.toList ++ xs.drop (i * s + s)).length = l.length * s := by
    have e3 := hset.len
    rw [e3]
    have hall : AllSz s (l.set i (setD d0 path d)) := fun e' he' => by
      rcases List.mem_or_eq_of_mem_set he' with h | rfl
      · exact g1 e' h
      · rw [q5, hd0]
    rw [hall.szs]
    simp
  refine hi'.write (b := b) rfl rfl gr (fun a' ha => .inl ha) ⟨fun e' he' => ?_, g0, ⟨_, ⟨by rw [hnl]; simp, .inr ⟨b, cap, _, by simp, Nat.zero_le _, setRow_heap w b _ _ _ _ g5, by simpa using c1, c2, ?_, ?_⟩⟩, hset.grow gr, fun u hu => ?_⟩, fun g' hg' a' ha hab => g6 a' ha (by simp only [Value.ownBlock, Option.some.injEq] at hg'; exact hab.trans hg'.symm)⟩ (fun a' ha => ?_) rfl rfl rfl (by simp) fun k hk => setRow_other w b k _ hk
  · rcases List.mem_or_eq_of_mem_set he' with h | rfl
    · exact g1 e' h
    · rw [q5, hd0]
  · rw [List.size_toArray, List.length_append, hnl, ← hxl, ← List.length_append, c3]
  · simp only [List.length_set]
    rw [← hnl]
    exact List.take_left
  · rcases List.mem_append.1 hu with hu | hu
    · rcases List.mem_append.1 hu with hu | hu
      · exact g4 u (List.mem_of_mem_take hu)
      · exact Rep.one q1 q2 u hu
    · exact g4 u (List.mem_of_mem_drop hu)
  · obtain ⟨u, hu⟩ := hi.pub a' ha
    exact ⟨u, by rw [(gr a' ha).2]; exact hu⟩
end
section
variable {P : Program} {f : FuncId} {fn : Func} {K : Ctx} {R : D → St → Prop} {k : List Item} {env : Env} {σ τ : St}
theorem g_nilVec (e : TypeId) (s : Nat) (hs0 : 0 < s) (h : Goes P f fn K R k env (.vec (.slice none 0 0) ([] : List D) e s :: σ)) : Goes P f fn K R k env σ := fun p a w hi =>
  h p a w (hi.more (o := .vec (.slice none 0 0) [] e s) ⟨AllSz.nil s, hs0, ⟨[], World.ownsRow_nil w 0 e s, Reps.nil _ _, by simp⟩, fun g hg => by simp [Value.ownBlock] at hg⟩ (fun b hb => by simp [Ob.blk, Value.ownBlock] at hb))
end
end Go.Proofs.Ythcgefbigimgoaa


namespace Go.Proofs.Ythcgefbigimgoaa
set_option maxRecDepth 100000
open Go.RowKit

abbrev wr (n : Int) : Int := IntKind.i64.wrap n
theorem wr_eq {n : Int} (h : -9223372036854775808 ≤ n ∧ n < 9223372036854775808) : wr n = n := wrap64 h
/-- An element, if there is one. -/
def getI {α : Type} (l : List α) (n : Int) : Option α := if 0 ≤ n then l[n.toNat]? else none
theorem getI_nat {α : Type} (l : List α) (i : Nat) : getI l (i : Int) = l[i]? := by simp [getI]
theorem getI_some {α : Type} {l : List α} {n : Int} {q : α} (h : getI l n = some q) : 0 ≤ n ∧ l[n.toNat]? = some q := by
  unfold getI at h
  split at h
  · exact ⟨by assumption, h⟩
  · cases h
/-- Two lists one behind the other, if that fits (b: the bytes of an element). -/
def appO {α : Type} (b : Nat) (l m : List α) : Option (List α) := if (l.length + m.length) * b ≤ 140737488355328 ∧ l.length + m.length ≤ 9223372036854775807 then some (l ++ m) else none
theorem appO_eq {α : Type} {b : Nat} {l m : List α} (h : (l.length + m.length) * b ≤ 140737488355328) (h2 : l.length + m.length ≤ 9223372036854775807) : appO b l m = some (l ++ m) := by rw [appO, if_pos ⟨h, h2⟩]
theorem appO_some {α : Type} {b : Nat} {l m r : List α} (h : appO b l m = some r) : (l.length + m.length) * b ≤ 140737488355328 ∧ l.length + m.length ≤ 9223372036854775807 ∧ r = l ++ m := by
  unfold appO at h
  split at h
  · rename_i h1
    exact ⟨h1.1, h1.2, (Option.some.inj h).symm⟩
  · cases h
/-- A part of a list, if the bounds are right. -/
def subO {α : Type} (l : List α) (lo hi : Int) : Option (List α) := if 0 ≤ lo ∧ lo ≤ hi ∧ hi ≤ l.length then some ((l.take hi.toNat).drop lo.toNat) else none
theorem subO_some {α : Type} {l r : List α} {lo hi : Int} (h : subO l lo hi = some r) : 0 ≤ lo ∧ lo ≤ hi ∧ hi ≤ l.length ∧ r = (l.take hi.toNat).drop lo.toNat := by
  unfold subO at h
  split at h
  · rename_i h1
    exact ⟨h1.1, h1.2.1, h1.2.2, (Option.some.inj h).symm⟩
  · cases h
/-- The length of a list to be made, if that fits. -/
def makeO (b : Nat) (n : Int) : Option Nat := if 0 ≤ n ∧ b * n.toNat ≤ 281474976710656 ∧ n.toNat ≤ 9223372036854775807 then some n.toNat else none
theorem makeO_some {b : Nat} {n : Int} {r : Nat} (h : makeO b n = some r) : n = (r : Int) ∧ b * r ≤ 281474976710656 ∧ r ≤ 9223372036854775807 := by
  unfold makeO at h
  split at h
  · rename_i h1
    obtain rfl := Option.some.inj h
    exact ⟨by omega, h1.2.1, h1.2.2⟩
  · cases h
theorem bindS {α β : Type} {o : Option α} {f : α → Option β} {r : β} (h : o.bind f = some r) : ∃ q, o = some q ∧ f q = some r := by
  cases o with
  | none => cases h
  | some q => exact ⟨q, rfl, h⟩
theorem exK {β γ : Type} (F : β → γ) {a : β} {r : γ} (h : F a = r) : ∃ k, k = a ∧ F k = r := ⟨a, rfl, h⟩
theorem listStep {α : Type} (l : List α) (i : Nat) (hi : i ≤ l.length) : (decide ((i : Int) < (l.length : Int)) = false ∧ l.drop i = [] ∧ i = l.length) ∨ ∃ q, decide ((i : Int) < (l.length : Int)) = true ∧ l.drop i = q :: l.drop (i + 1) ∧ getI l (i : Int) = some q ∧ i < l.length := by
  by_cases h : i < l.length
  · exact .inr ⟨l[i], decide_eq_true (by omega), List.drop_eq_getElem_cons h, by rw [getI_nat]; exact List.getElem?_eq_getElem h, h⟩
  · exact .inl ⟨decide_eq_false (by omega), List.drop_eq_nil_of_le (by omega), by omega⟩
theorem cntStep (i n : Int) (m : Nat) (hm : m = (n - i).toNat) : (m = 0 ∧ decide (i < n) = false) ∨ ∃ m', m = m' + 1 ∧ decide (i < n) = true ∧ m' = (n - (i + 1)).toNat ∧ i < n := by
  by_cases h : i < n
  · exact .inr ⟨(n - (i + 1)).toNat, by omega, decide_eq_true h, rfl, h⟩
  · exact .inl ⟨by omega, decide_eq_false h⟩
theorem downStep (m : Nat) : (m = 0 ∧ decide ((m : Int) - 1 ≥ 0) = false) ∨ ∃ m', m = m' + 1 ∧ decide ((m : Int) - 1 ≥ 0) = true := by
  cases m with
  | zero => exact .inl ⟨rfl, by decide⟩
  | succ k => exact .inr ⟨k, rfl, decide_eq_true (by omega)⟩

section
variable {P : Program} {X : D → Prop} {l : List Oper} {rest : List (Nat × Cls)} {env : Env} {σ : St} {f : FuncId} {fn : Func} {K : Ctx} {R : D → St → Prop} {k : List Item}
theorem r_sB {α : Type} (s : Nat) {b : Bool} {x y : Option α} {res : α} (hs : lk env s = some (.bool b)) (hr : (bif b then x else y) = some res) (h1 : b = true → x = some res → Run P l.toArray X (Goes P f fn K R k) rest ((s, .bool true) :: env) σ) (h2 : b = false → y = some res → Run P l.toArray X (Goes P f fn K R k) rest ((s, .bool false) :: env) σ) : Run P l.toArray X (Goes P f fn K R k) rest env σ :=
  r_split s hs (fun h => h1 h (by rw [h] at hr; exact hr)) fun h => h2 h (by rw [h] at hr; exact hr)
theorem g_sB {α : Type} (s : Nat) {b : Bool} {x y : Option α} {res : α} (hs : lk env s = some (.bool b)) (hr : (bif b then x else y) = some res) (h1 : b = true → x = some res → Goes P f fn K R k ((s, .bool true) :: env) σ) (h2 : b = false → y = some res → Goes P f fn K R k ((s, .bool false) :: env) σ) : Goes P f fn K R k env σ :=
  g_split s hs (fun h => h1 h (by rw [h] at hr; exact hr)) fun h => h2 h (by rw [h] at hr; exact hr)
theorem g_blockJ {id : Nat} {c : Code} (J : Env → St → Prop) (hJ : ∀ env σ, J env σ → Goes P f fn K R k env σ) (h : (∀ env σ, J env σ → Goes P f fn K R k env σ) → Goes P f fn K R (.code c :: .inBlock id :: k) env σ) : Goes P f fn K R (.code (.block id c) :: k) env σ := g_block (h hJ)
end

theorem pf0 {α : Type} (l : List α) : l.Perm l := List.Perm.refl _
theorem pf1 {α : Type} (a b : α) (l : List α) : (a :: b :: l).Perm (b :: a :: l) := List.Perm.swap b a l
theorem pf2 {α : Type} (a b c : α) (l : List α) : (a :: b :: c :: l).Perm (c :: a :: b :: l) := ((pf1 b c l).cons a).trans (pf1 a c _)
theorem pf3 {α : Type} (a b c d : α) (l : List α) : (a :: b :: c :: d :: l).Perm (d :: a :: b :: c :: l) := ((pf2 b c d l).cons a).trans (pf1 a d _)
theorem pf4 {α : Type} (a b c d e : α) (l : List α) : (a :: b :: c :: d :: e :: l).Perm (e :: a :: b :: c :: d :: l) := ((pf3 b c d e l).cons a).trans (pf1 a e _)
section
variable {P : Program} {o : Oper} {ρ : Operand → Option D} {d : D} {α : Type} {f : α → D}
theorem m_index {t e : TypeId} {x ix : Operand} {s by_ : Nat} {dx : D} (l : List α) {k : IntKind} {n : Int} {q : α} (ho : o.op = .indexAddr t x ix) (hE : ElT P t e s by_) (hx : ρ x = some dx) (hl : AsL dx (l.map f)) (hix : ρ ix = some (.int k n)) (hq : getI l n = some q) (hall : ∀ a, sz (f a) = s) (hp : (f q).plain = true) : StepD P o ρ (.ptr (f q)) := by
  obtain ⟨h0, h1⟩ := getI_some hq
  exact t_index n.toNat ho hE hx hl hix (by omega) (getm h1) (aszm hall) hp
theorem m_appOwn {x y : Operand} {t e : TypeId} {s by_ : Nat} {σ τ : St} {u : Value} (l m : List α) {r : List α} {dy : D} {n : Nat} (ho : o.op = .call { callee := .builtin .append, args := #[x, y], argTypes := #[t, t] }) (hE : ElT P t e s by_) (hx : ρ x = some (.own u (l.map f))) (hy : ρ y = some dy) (hm : AsL dy (m.map f)) (hσ : σ.Perm (.row u n e s :: τ)) (hn : n = l.length) (hall : ∀ a, sz (f a) = s) (hr : appO by_ l m = some r) :
    StepS P o ρ σ fun d' σ' => ∃ u', d' = .own u' (r.map f) ∧ σ' = .row u' r.length e s :: τ := by
  obtain ⟨h1, h2, rfl⟩ := appO_some hr
  have h := s_appOwn (P := P) (o := o) (ρ := ρ) (σ := σ) (τ := τ) (u := u) (l := l.map f) (m := m.map f) ho hE hx hy hm (by rw [List.length_map, ← hn]; exact hσ) (aszm hall) (aszm hall) (by simpa using h1) (by simpa using h2)
  rw [← List.map_append, List.length_map] at h
  exact h
theorem m_sub {t e : TypeId} {x : Operand} {low high : Option Operand} {s by_ : Nat} {dx : D} (l : List α) {r : List α} (lo hi : Int) (ho : o.op = .slice t x low high none) (hE : ElT P t e s by_) (hx : ρ x = some dx) (hl : AsL dx (l.map f)) (h1 : ∀ n : Nat, (n : Int) = lo → bndLo ρ low n) (h2 : ∀ n : Nat, (n : Int) = hi → bndHi ρ l.length high n) (hall : ∀ a, sz (f a) = s) (hr : subO l lo hi = some r) : StepD P o ρ (.lst (r.map f)) := by
  obtain ⟨g1, g2, g3, rfl⟩ := subO_some hr
  have := t_sub lo.toNat hi.toNat ho hE hx hl (h1 _ (by omega)) (by rw [List.length_map]; exact h2 _ (by omega)) (by omega) (by rw [List.length_map]; omega) (aszm hall)
  rwa [← List.map_take, ← List.map_drop] at this
theorem bl_none : ∀ n : Nat, (n : Int) = 0 → bndLo ρ none n := fun n h => by unfold bndLo; omega
theorem bl_some {x : Operand} {k : IntKind} {m : Int} (h : ρ x = some (.int k m)) : ∀ n : Nat, (n : Int) = m → bndLo ρ (some x) n := fun n e => ⟨k, m, h, e.symm⟩
theorem bh_none {len : Nat} : ∀ n : Nat, (n : Int) = (len : Int) → bndHi ρ len none n := fun n h => by unfold bndHi; omega
theorem bh_some {len : Nat} {x : Operand} {k : IntKind} {m : Int} (h : ρ x = some (.int k m)) : ∀ n : Nat, (n : Int) = m → bndHi ρ len (some x) n := fun n e => ⟨k, m, h, e.symm⟩
theorem m_len {x : Operand} {t e : TypeId} {s by_ : Nat} {dx : D} (l : List α) (ho : o.op = .call { callee := .builtin .len, args := #[x], argTypes := #[t] }) (hE : ElT P t e s by_) (hx : ρ x = some dx) (hl : AsL dx (l.map f)) : StepD P o ρ (.int .i64 (l.length : Int)) := by
  have := t_len ho hE hx hl
  rwa [List.length_map] at this
theorem m_makeArr {t e : TypeId} {x y : Operand} {s by_ : Nat} {k k' : IntKind} {a1 : Int} {r : Nat} (z : α) {σ : St} (ho : o.op = .makeSlice t x y) (hE : ElT P t e s by_) (hZ : ZeroV P e (f z)) (hx : ρ x = some (.int k a1)) (hy : ρ y = some (.int k' a1)) (hr : makeO by_ a1 = some r) :
    StepS P o ρ σ fun d' σ' => ∃ b, d' = .arr b s 0 r ∧ σ' = .arr b ((List.replicate r z).map f) e s :: σ := by
  obtain ⟨rfl, h2, h3⟩ := makeO_some hr
  rw [List.map_replicate]
  exact s_makeArr ho hE hZ hx rfl hy rfl h2 h3
theorem m_make0 {t e : TypeId} {x y : Operand} {s by_ : Nat} {k k' : IntKind} {a1 : Int} {r : Nat} {σ : St} (ho : o.op = .makeSlice t x y) (hE : ElT P t e s by_) (hx : ρ x = some (.int k 0)) (hy : ρ y = some (.int k' a1)) (hr : makeO by_ a1 = some r) :
    StepS P o ρ σ fun d' σ' => ∃ u, d' = .own u (([] : List α).map f) ∧ σ' = .row u ([] : List α).length e s :: σ := by
  obtain ⟨h1, h2, h3⟩ := makeO_some hr
  exact s_make0 ho hE hx hy h1 h2 h3
theorem m_lit {t e : TypeId} {n s by_ : Nat} {parts : Array (Nat × Operand)} (xs : List Operand) (l : List α) (ho : o.op = .buildSlice t n parts) (hE : ElT P t e s by_) (hps : parts.toList = (xs.zipIdx 0).map fun x => (x.2, x.1)) (hn : n = xs.length) (hn0 : 0 < n) (hsm : n * s ≤ 16777216) (hO : Opds ρ xs (l.map f)) (hall : ∀ a, sz (f a) = s) (hpl : ∀ a, (f a).plain = true) : StepD P o ρ (.full (l.map f)) :=
  t_lit xs ho hE hps hn hn0 hsm hO (aszm hall) fun d hd => by
    obtain ⟨a, _, rfl⟩ := List.mem_map.1 hd
    exact hpl a
theorem m_indexArr {t e : TypeId} {x ix : Operand} {s by_ b lo n : Nat} {k : IntKind} {m : Int} {q : α} (l : List α) (ho : o.op = .indexAddr t x ix) (hE : ElT P t e s by_) (hx : ρ x = some (.arr b s lo n)) (hix : ρ ix = some (.int k m)) (hq : getI l m = some q) (hn : l.length = n) : StepD P o ρ (.mref b (lo + m.toNat) s 0 []) := by
  obtain ⟨h0, h1⟩ := getI_some hq
  exact s_indexArr m.toNat ho hE hx hix (by omega) (by rw [← hn]; exact (List.getElem?_eq_some_iff.1 h1).1)
end
end Go.Proofs.Ythcgefbigimgoaa


namespace Go.Proofs.Ythcgefbigimgoaa
set_option maxRecDepth 100000
open Go.RowKit

/-! ### maps as lists of pairs -/
section
variable {α β : Type} [DecidableEq α]
def mget : List (α × β) → α → Option β
  | [], _ => none
  | q :: l, x => if q.1 = x then some q.2 else mget l x
def mput : List (α × β) → α → β → List (α × β)
  | [], x, d => [(x, d)]
  | q :: l, x, d => if q.1 = x then (x, d) :: l else q :: mput l x d
theorem findA_map (g : β → D) : ∀ (l : List (α × β)) (x : α), findA (l.map fun q => (q.1, g q.2)) x = (mget l x).map g
  | [], _ => rfl
  | q :: l, x => by
    simp only [List.map_cons, findA, mget]
    split
    · rfl
    · exact findA_map g l x
theorem putA_map (g : β → D) : ∀ (l : List (α × β)) (x : α) (d : β), putA (l.map fun q => (q.1, g q.2)) x (g d) = (mput l x d).map fun q => (q.1, g q.2)
  | [], _, _ => rfl
  | q :: l, x, d => by
    simp only [List.map_cons, putA, mput]
    split
    · rfl
    · rw [putA_map g l x d]; rfl
theorem mget_mput : ∀ (l : List (α × β)) (x y : α) (d : β), mget (mput l x d) y = if x = y then some d else mget l y
  | [], x, y, d => by simp [mput, mget]
  | q :: l, x, y, d => by
    simp only [mput]
    split
    · rename_i h
      simp only [mget]
      split
      · rfl
      · rename_i h2; rw [if_neg (by rw [h]; exact h2)]
    · rename_i h
      simp only [mget, mget_mput l x y d]
      by_cases h1 : q.1 = y
      · rw [if_pos h1, if_neg (fun h2 => h (h1.trans h2.symm)), if_pos h1]
      · rw [if_neg h1, if_neg h1]
theorem mput_len : ∀ (l : List (α × β)) (x : α) (d : β), (mput l x d).length ≤ l.length + 1
  | [], _, _ => by simp [mput]
  | q :: l, x, d => by
    unfold mput
    split
    · simp
    · have := mput_len l x d
      simp only [List.length_cons]
      omega
end
abbrev mapM' {α β : Type} (key : α → D) (g : β → D) (l : List (α × β)) : List (D × D) := l.map fun q => (key q.1, g q.2)
theorem mapM_eq {α β : Type} (key : α → D) (g : β → D) (l : List (α × β)) : mapM' key g l = MapD key (l.map fun q => (q.1, g q.2)) := by simp [List.map_map, Function.comp_def]
/-- A map with one entry more or changed, if there is room. -/
def mputO {α β : Type} [DecidableEq α] (l : List (α × β)) (x : α) (d : β) : Option (List (α × β)) := if l.length < 9223372036854775807 then some (mput l x d) else none
theorem mputO_some {α β : Type} [DecidableEq α] {l r : List (α × β)} {x : α} {d : β} (h : mputO l x d = some r) : l.length < 9223372036854775807 ∧ r = mput l x d := by
  unfold mputO at h
  split at h
  · exact ⟨by assumption, (Option.some.inj h).symm⟩
  · cases h

def ZeroM (P : Program) (e : TypeId) (z : D) : Prop := ∃ zv, (P.info? e).map (·.zero) = some (some zv) ∧ ∀ p w, Rep p w z zv
section
variable {P : Program} {o : Oper} {ρ : Operand → Option D} {α β : Type} [DecidableEq α] {key : α → D} {g : β → D}
theorem s_lookup1 {t kt e : TypeId} {x y : Operand} {vk : α → Value} {d : TypeDesc} {r : Nat} {l : List (α × D)} {a0 : α} {z : D} {zv : Value} {σ : St} (ho : o.op = .lookup t x y false) (ht : P.underlying t = some (.map kt e)) (hK : KeyOk P kt key vk d) (hz : (P.info? e).map (·.zero) = some (some zv)) (hzr : ∀ p w, Rep p w z zv) (hx : ρ x = some (.map r)) (hy : ρ y = some (key a0)) (hσ : .map r (MapD key l) ∈ σ) :
    StepS P o ρ σ fun d' σ' => d' = (findA l a0).getD z ∧ σ' = σ := fun K p a w hi h => by
  have h1 := h x (by rw [ho]; simp [Op.operands]) _ hx
  have h2 := hK.rep _ _ _ _ (h y (by rw [ho]; simp [Op.operands]) _ hy)
  simp only [Rep] at h1
  obtain ⟨es, clock, g1, g2, _⟩ := hi.ok _ hσ
  obtain ⟨i, hi1, hi2⟩ := Option.map_eq_some_iff.1 hz
  have hc := MapKept.run_checkKey (w := w) hK.und (hK.isk a0) es.isEmpty 9999
  rcases find_spec hK p w a0 z l es.toList 0 g2 with ⟨q1, q2, _⟩ | ⟨j, e', dv, q1, q2, q3, q4, q5, _⟩
  · have hf := MapKept.run_findKey (w := w) hK.und q1
    have hr : (execOp a.eval o).run P w = .ok (.value zv) w := by
      unfold execOp
      rw [ho]
      simp [h1, h2, Instr.lookup, run_underlying ht, MapKept.run_getObj_map g1, hc, hf, zeroValue, typeInfo, hi1, hi2]
    unfold Oper.wp
    rw [hr]
    refine ⟨_, _, _, p, rfl, ⟨rfl, rfl⟩, ?_, hi, Grow.refl _ _⟩
    rw [q2]
    exact hzr p w
  · have hf := MapKept.run_findKey (w := w) hK.und q1
    have hr : (execOp a.eval o).run P w = .ok (.value e'.val) w := by
      unfold execOp
      rw [ho]
      simp [h1, h2, Instr.lookup, run_underlying ht, MapKept.run_getObj_map g1, hc, hf]
    unfold Oper.wp
    rw [hr]
    refine ⟨_, _, _, p, rfl, ⟨rfl, rfl⟩, ?_, hi, Grow.refl _ _⟩
    rw [q4]
    exact q5
theorem m_lookup1 {t kt e : TypeId} {x y : Operand} {vk : α → Value} {d : TypeDesc} {r : Nat} (l : List (α × β)) (a0 : α) (z : β) {σ : St} (ho : o.op = .lookup t x y false) (ht : P.underlying t = some (.map kt e)) (hK : KeyOk P kt key vk d) (hz : ZeroM P e (g z)) (hx : ρ x = some (.map r)) (hy : ρ y = some (key a0)) (hσ : .map r (mapM' key g l) ∈ σ) :
    StepS P o ρ σ fun d' σ' => d' = g ((mget l a0).getD z) ∧ σ' = σ := by
  obtain ⟨zv, h1, h2⟩ := hz
  rw [mapM_eq] at hσ
  have := s_lookup1 ho ht hK h1 h2 hx hy hσ
  rw [findA_map] at this
  have e1 : ((mget l a0).map g).getD (g z) = g ((mget l a0).getD z) := by cases mget l a0 <;> rfl
  rwa [e1] at this
theorem m_mapUpdate {t kt e : TypeId} {x y v : Operand} {vk : α → Value} {d : TypeDesc} {r : Nat} (l : List (α × β)) (a0 : α) (b0 : β) {l' : List (α × β)} {dn : D} {σ τ : St} (ho : o.op = .mapUpdate t x y v) (ht : P.underlying t = some (.map kt e)) (hK : KeyOk P kt key vk d) (hx : ρ x = some (.map r)) (hy : ρ y = some (key a0)) (hv : ρ v = some dn) (hw : Wk dn (g b0)) (hσ : σ.Perm (.map r (mapM' key g l) :: τ)) (hl : mputO l a0 b0 = some l') :
    StepS P o ρ σ fun _ σ' => σ' = .map r (mapM' key g l') :: τ := by
  obtain ⟨h1, rfl⟩ := mputO_some hl
  rw [mapM_eq] at hσ
  have := s_mapUpdate τ ho ht hK hx hy hv hw hσ (by rw [List.length_map]; exact h1)
  rwa [putA_map, ← mapM_eq] at this
end
theorem m_makeMap {P : Program} {o : Oper} {ρ : Operand → Option D} {α β : Type} {key : α → D} {g : β → D} {t : TypeId} {σ : St} (ho : o.op = .makeMap t none) : StepS P o ρ σ fun d' σ' => ∃ r, d' = .map r ∧ σ' = .map r (mapM' key g ([] : List (α × β))) :: σ := s_makeMap ho
/-! ### facts out of slots -/
section
variable {P : Program} {f : FuncId} {fn : Func} {K : Ctx} {R : D → St → Prop} {k : List Item} {env : Env} {σ : St}
theorem g_lenP (s : Nat) (path : List Nat) {d0 dx : D} {l : List D} (hs : lk env s = some (.ptr d0)) (hp : subD d0 path = some dx) (hl : AsL dx l) (h : l.length ≤ 9223372036854775807 → Goes P f fn K R k env σ) : Goes P f fn K R k env σ :=
  g_fact (fun p a w _ hr => by
    have h1 := hr s _ hs
    simp only [Rep] at h1
    obtain ⟨b, o, u, _, _, h2, _⟩ := h1
    obtain ⟨v, h3, _⟩ := subD_rep h2 hp
    obtain ⟨A, c, xs, _, g2, g3, _⟩ := hl.rep h3
    omega) h
theorem g_lenS (s : Nat) (path : List Nat) {d0 dx : D} {l : List D} (hs : lk env s = some d0) (hp : subD d0 path = some dx) (hl : AsL dx l) (h : l.length ≤ 9223372036854775807 → Goes P f fn K R k env σ) : Goes P f fn K R k env σ :=
  g_fact (fun p a w _ hr => by
    obtain ⟨v, h3, _⟩ := subD_rep (hr s _ hs) hp
    obtain ⟨A, c, xs, _, g2, g3, _⟩ := hl.rep h3
    omega) h
theorem g_eqD (s : Nat) {d d' : D} (hs : lk env s = some d) (hd : d = d') (h : Goes P f fn K R k ((s, d') :: env) σ) : Goes P f fn K R k env σ := by
  subst hd
  refine goes_ext _ env σ (fun t => ?_) h
  rw [look_cons]
  split
  · rename_i h; subst h; exact hs.symm
  · rfl
theorem g_nilRow (e : TypeId) (s : Nat) (h : Goes P f fn K R k env (.row (.slice none 0 0) ([] : List D).length e s :: σ)) : Goes P f fn K R k env σ := fun p a w hi =>
  h p a w (hi.more ⟨⟨[], World.ownsRow_nil w 0 e s⟩, fun g hg => by simp [Value.ownBlock] at hg⟩ (fun b hb => by simp [Ob.blk, Value.ownBlock] at hb))
theorem g_ends {E : Env} {S : St} (hs : Sub E env) (hp : σ.Perm S) (h : Goes P f fn K R k E S) : Goes P f fn K R k env σ := g_sub E hs (g_perm S [] (by simpa using hp) h)
theorem g_seqJ {a b : Code} (J : Env → St → Prop) (hJ : ∀ env σ, J env σ → Goes P f fn K R (.code b :: k) env σ) (h : (∀ env σ, J env σ → Goes P f fn K R (.code b :: k) env σ) → Goes P f fn K R (.code a :: .code b :: k) env σ) : Goes P f fn K R (.code (.seq a b) :: k) env σ := g_seq (h hJ)
theorem r_st {X : D → Prop} {Q : Env → St → Prop} {l : List Oper} {rest : List (Nat × Cls)} (σ' : St) (hs : σ = σ') (h : Run P l.toArray X Q rest env σ') : Run P l.toArray X Q rest env σ := hs ▸ h
end
/-- The number of rounds of a loop that counts down to 0. -/
def downO (n : Int) : Option Nat := if -1 ≤ n then some (n + 1).toNat else none
theorem downO_some {n : Int} {m : Nat} (h : downO n = some m) : n = (m : Int) - 1 := by
  unfold downO at h
  split at h
  · have := Option.some.inj h; omega
  · cases h
end Go.Proofs.Ythcgefbigimgoaa


namespace Go.Proofs.Ythcgefbigimgoaa
set_option maxRecDepth 100000
open Go.RowKit

section
variable {P : Program} {o : Oper} {ρ : Operand → Option D} {d : D}
def min64 (m n : Int) : Int := if n < m then n else m
def max64 (m n : Int) : Int := if n > m then n else m
theorem min64_eq (m n : Int) : min64 m n = min m n := by unfold min64; omega
theorem max64_eq (m n : Int) : max64 m n = max m n := by unfold max64; omega
theorem s_min {t t' : TypeId} {x y : Operand} {m n : Int} (ho : o.op = .call { callee := .builtin .min, args := #[x, y], argTypes := #[t, t'] }) (hx : ρ x = some (.int .i64 m)) (hy : ρ y = some (.int .i64 n)) : StepD P o ρ (.int .i64 (min64 m n)) := stepD_of fun p a w h => by
  have h1 := h x (by rw [ho]; simp [Op.operands, Call.operands]) _ hx
  have h2 := h y (by rw [ho]; simp [Op.operands, Call.operands]) _ hy
  simp only [Rep] at h1 h2
  refine ⟨.int .i64 (min64 m n), ?_, by simp only [Rep]; exact ⟨trivial, by unfold min64; split; exact h2.2; exact h1.2⟩⟩
  unfold execOp
  rw [ho]
  simp [resolve, invoke, builtin, h1.1, h2.1, Builtin.min_, Builtin.min2, min64]
theorem s_max {t t' : TypeId} {x y : Operand} {m n : Int} (ho : o.op = .call { callee := .builtin .max, args := #[x, y], argTypes := #[t, t'] }) (hx : ρ x = some (.int .i64 m)) (hy : ρ y = some (.int .i64 n)) : StepD P o ρ (.int .i64 (max64 m n)) := stepD_of fun p a w h => by
  have h1 := h x (by rw [ho]; simp [Op.operands, Call.operands]) _ hx
  have h2 := h y (by rw [ho]; simp [Op.operands, Call.operands]) _ hy
  simp only [Rep] at h1 h2
  refine ⟨.int .i64 (max64 m n), ?_, by simp only [Rep]; exact ⟨trivial, by unfold max64; split; exact h2.2; exact h1.2⟩⟩
  unfold execOp
  rw [ho]
  simp [resolve, invoke, builtin, h1.1, h2.1, Builtin.max_, Builtin.max2, max64]
theorem s_nilCheckR {x : Operand} {b off : Nat} {path : List Nat} (ho : o.op = .nilCheck x) (hx : ρ x = some (.ref b off path)) : StepD P o ρ (.ref b off path) := stepD_of fun p a w h => by
  have h1 := h x (by rw [ho]; simp [Op.operands]) _ hx
  refine ⟨a.eval x, ?_, h1⟩
  simp only [Rep] at h1
  unfold execOp
  rw [ho]
  simp [h1]
end
end Go.Proofs.Ythcgefbigimgoaa


namespace Go.Proofs.Ythcgefbigimgoaa
set_option maxRecDepth 100000
open Go.RowKit

/-- What a round leaves: the end (.inl), or on to the next (.inr). -/
def mapRes {V R : Type} (F : V → Option R) : R ⊕ V → Option R
  | .inl r => some r
  | .inr v => F v
/-- What a map's rounds leave: B is one round, k what comes behind. -/
def mapLoop {Q V R : Type} (B : Q → V → Option (R ⊕ V)) (k : V → Option R) : List Q → V → Option R
  | [], v => k v
  | q :: l, v => (B q v).bind (mapRes (mapLoop B k l))
open Classical in
/-- What comes out in whatever order, if it is always the same. -/
noncomputable def permO {Q R : Type} (F : List Q → Option R) (l : List Q) : Option R := if ∀ l' : List Q, l'.Perm l → F l' = F l then F l else none
theorem permO_all {Q R : Type} {F : List Q → Option R} {l : List Q} {r : R} (h : permO F l = some r) : ∀ l' : List Q, l'.Perm l → F l' = some r := by
  unfold permO at h
  split at h
  · rename_i h1
    exact fun l' hp => (h1 l' hp).trans h
  · cases h
theorem permO_of {Q R : Type} {F : List Q → Option R} {l : List Q} {r : R} (h : ∀ l' : List Q, l'.Perm l → F l' = some r) : permO F l = some r := by
  have h0 := h l (.refl _)
  unfold permO
  rw [if_pos fun l' hp => (h l' hp).trans h0.symm]
  exact h0
theorem mapStep {Q V R : Type} {B : Q → V → Option (R ⊕ V)} {k : V → Option R} {q : Q} {L l : List Q} {v : V} {r : R} (hp : L.Perm (q :: l)) (h : ∀ l' : List Q, l'.Perm L → mapLoop B k l' v = some r) : ∃ z, B q v = some z ∧ ∀ l' : List Q, l'.Perm l → mapRes (mapLoop B k l') z = some r := by
  have h1 : ∀ l' : List Q, l'.Perm l → mapLoop B k (q :: l') v = some r := fun l' hl => h (q :: l') ((hl.cons q).trans hp.symm)
  obtain ⟨z, hz, _⟩ := bindS (show (B q v).bind (mapRes (mapLoop B k l)) = some r from h1 l (.refl _))
  refine ⟨z, hz, fun l' hl => ?_⟩
  have h2 : (B q v).bind (mapRes (mapLoop B k l')) = some r := h1 l' hl
  rw [hz] at h2
  exact h2
theorem mapEnd {Q V R : Type} {B : Q → V → Option (R ⊕ V)} {k : V → Option R} {L : List Q} {v : V} {r : R} (hp : L = []) (h : ∀ l' : List Q, l'.Perm L → mapLoop B k l' v = some r) : k v = some r := by
  subst hp
  exact h [] (.refl _)
theorem mapOut {Q R V : Type} {B : Q → V → Option (R ⊕ V)} {k : V → Option R} {L : List Q} {x : Option R} {z : R ⊕ V} {r : R} (h : ∀ l' : List Q, l'.Perm L → mapRes (mapLoop B k l') z = some r) (hx : x.map Sum.inl = some z) : x = some r := by
  cases x with
  | none => cases hx
  | some y =>
    obtain rfl := Option.some.inj hx
    exact h L (.refl _)
theorem mapBack {Q R V : Type} {B : Q → V → Option (R ⊕ V)} {k : V → Option R} {L : List Q} {v : V} {z : R ⊕ V} {r : R} (h : ∀ l' : List Q, l'.Perm L → mapRes (mapLoop B k l') z = some r) (hx : some (Sum.inr v) = some z) : ∀ l' : List Q, l'.Perm L → mapLoop B k l' v = some r := by
  obtain rfl := Option.some.inj hx
  exact h

/-- The pairs that have not come out yet. -/
def remOf {Q : Type} (es : Array MapEntry) (seen : Array Nat) (l : List Q) : List Q := ((es.toList.zip l).filter fun x => !seen.contains x.1.born).map (·.2)
def CurE {Q : Type} (es : Array MapEntry) (l : List Q) (e : MapEntry) (q : Q) : Prop := ∃ i : Nat, es.toList[i]? = some e ∧ l[i]? = some q
theorem remOf_start {Q : Type} {es : Array MapEntry} {l : List Q} (h : es.size = l.length) : remOf es #[] l = l := by
  unfold remOf
  rw [List.filter_eq_self.2 (fun x _ => by simp)]
  rw [List.map_snd_zip]
  simp [← h]
theorem repKV_len {p : Addr → Prop} {w : World} : ∀ {kv : List (D × D)} {es : List MapEntry}, RepKV p w kv es → es.length = kv.length
  | [], _, h => by simp only [RepKV] at h; subst h; rfl
  | (k, d) :: kv, es, h => by
    simp only [RepKV] at h
    obtain ⟨e, rest, rfl, _, _, h3⟩ := h
    simp [repKV_len h3]
theorem repKV_at {p : Addr → Prop} {w : World} : ∀ {kv : List (D × D)} {es : List MapEntry} {i : Nat} {e : MapEntry} {k d : D}, RepKV p w kv es → es[i]? = some e → kv[i]? = some (k, d) → Rep p w k e.key ∧ Rep p w d e.val
  | [], _, i, _, _, _, _, _, h => by cases i <;> cases h
  | (k, d) :: kv, es, i, e, k', d', h, h1, h2 => by
    simp only [RepKV] at h
    obtain ⟨e0, rest, rfl, g1, g2, g3⟩ := h
    cases i with
    | zero =>
      simp only [List.getElem?_cons_zero, Option.some.injEq, Prod.mk.injEq] at h1 h2
      obtain ⟨rfl, rfl⟩ := h2
      subst h1
      exact ⟨g1, g2⟩
    | succ i =>
      simp only [List.getElem?_cons_succ] at h1 h2
      exact repKV_at g3 h1 h2
theorem cont_push {a : Array Nat} {x y : Nat} : (a.push x).contains y = (a.contains y || decide (y = x)) := by
  rw [Bool.eq_iff_iff]
  simp [Array.mem_push]
theorem remOf_step {Q : Type} : ∀ (es : List MapEntry) (l : List Q) (seen : Array Nat) (i : Nat) (e : MapEntry) (q : Q), (es.map (·.born)).Nodup → es[i]? = some e → l[i]? = some q → seen.contains e.born = false →
    (((es.zip l).filter fun x => !seen.contains x.1.born).map (·.2)).Perm (q :: ((es.zip l).filter fun x => !(seen.push e.born).contains x.1.born).map (·.2))
  | [], _, _, i, _, _, _, h, _, _ => by cases i <;> cases h
  | _ :: _, [], _, i, _, _, _, _, h, _ => by cases i <;> cases h
  | a :: es, b :: l, seen, i, e, q, hn, h1, h2, h3 => by
    simp only [List.map_cons, List.nodup_cons] at hn
    simp only [List.zip_cons_cons]
    cases i with
    | zero =>
      simp only [List.getElem?_cons_zero, Option.some.injEq] at h1 h2
      subst h1 h2
      rw [List.filter_cons_of_pos (by rw [h3]; rfl), List.filter_cons_of_neg (by simp)]
      have : (es.zip l).filter (fun x => !seen.contains x.1.born) = (es.zip l).filter (fun x => !(seen.push a.born).contains x.1.born) := List.filter_congr fun x hx => by
        have hne : x.1.born ≠ a.born := fun e => hn.1 (e ▸ List.mem_map_of_mem (f := (·.born)) (List.of_mem_zip (show (x.1, x.2) ∈ es.zip l from hx)).1)
        rw [cont_push, decide_eq_false hne, Bool.or_false]
      rw [List.map_cons, this]
    | succ i =>
      simp only [List.getElem?_cons_succ] at h1 h2
      have ih := remOf_step es l seen i e q hn.2 h1 h2 h3
      have hne : a.born ≠ e.born := fun he => hn.1 (he ▸ List.mem_map_of_mem (f := (·.born)) (List.mem_of_getElem? h1))
      cases hs : seen.contains a.born with
      | true =>
        rw [List.filter_cons_of_neg (by rw [hs]; decide), List.filter_cons_of_neg (by rw [cont_push, hs]; simp)]
        exact ih
      | false =>
        rw [List.filter_cons_of_pos (by rw [hs]; rfl), List.filter_cons_of_pos (by rw [cont_push, hs, decide_eq_false hne]; rfl)]
        exact (ih.cons b).trans (List.Perm.swap q b _)

section
variable {P : Program} {o : Oper} {ρ : Operand → Option D} {α β : Type} {key : α → D} {g : β → D}
theorem s_range {t kt e : TypeId} {x : Operand} {r : Nat} {l : List (α × β)} {σ τ : St} (ho : o.op = .range t x) (ht : P.underlying t = some (.map kt e)) (hx : ρ x = some (.map r)) (hσ : σ.Perm (.map r (mapM' key g l) :: τ)) :
    StepS P o ρ σ fun d' σ' => ∃ b es cl, d' = .ref b 0 [] ∧ σ' = .iter b r cl #[] cl :: .mapE r (mapM' key g l) es cl :: τ ∧ es.size = l.length := fun K p a w hi h => by
  have h1 := h x (by rw [ho]; simp [Op.operands]) _ hx
  simp only [Rep] at h1
  have hi' := hi.perm hσ
  obtain ⟨es, cl, g1, g2, g3, g4, g5⟩ := hi'.ok _ (List.mem_cons_self ..)
  have hr : (execOp a.eval o).run P w = .ok (.value (.pointer (some ⟨w.heap.size, 0, none⟩))) (w.alloc (.mapIter (some r) cl #[] cl)) := by
    unfold execOp
    rw [ho]
    simp [h1, run_range_map w t kt e r es cl ht g1]
  unfold Oper.wp
  rw [hr]
  have hi2 : Inv K p (.mapE r (mapM' key g l) es cl :: τ) w := ⟨fun o' ho' => by
      rcases List.mem_cons.1 ho' with rfl | ho'
      · exact ⟨g1, g2, g3, g4, g5⟩
      · exact hi'.ok _ (List.mem_cons_of_mem _ ho'), hi'.nd, hi'.mine, hi'.pub, hi'.gr, hi'.neu, hi'.os, hi'.tape, hi'.output, hi'.size, hi'.block⟩
  refine ⟨_, .ref w.heap.size 0 [], _, p, rfl, ⟨w.heap.size, es, cl, rfl, rfl, ?_⟩, by simp only [Rep], ?_, grow_alloc hi.pub _⟩
  · have := repKV_len g2
    simpa using this
  refine (hi2.alloc _).more (heap_alloc_new w _) fun b hb => ?_
  simp only [Ob.blk, Option.some.injEq] at hb
  subst hb
  exact ⟨.inl hi.size, fun hm => by have := hi2.lt hm; omega⟩
theorem inv_close {K : Ctx} {p : Addr → Prop} {w : World} {τ : St} {b r c : Nat} {seen : Array Nat} {last : Nat} {kv : List (D × D)} {es : Array MapEntry} {cl : Nat} (hi : Inv K p (.iter b r c seen last :: .mapE r kv es cl :: τ) w) : Inv K p (.map r kv :: τ) w :=
  let hi' := hi.tail
  ⟨fun o' ho' => by
      rcases List.mem_cons.1 ho' with rfl | ho'
      · obtain ⟨g1, g2, g3, g4, g5⟩ := hi'.ok _ (List.mem_cons_self ..)
        exact ⟨es, cl, g1, g2, g3, g4, g5⟩
      · exact hi'.ok _ (List.mem_cons_of_mem _ ho'), hi'.nd, hi'.mine, hi'.pub, hi'.gr, hi'.neu, hi'.os, hi'.tape, hi'.output, hi'.size, hi'.block⟩
theorem s_next {x : Operand} {b r cl last : Nat} {seen : Array Nat} {es : Array MapEntry} {l : List (α × β)} {σ τ : St} (ho : o.op = .next x false) (hx : ρ x = some (.ref b 0 [])) (hσ : σ.Perm (.iter b r cl seen last :: .mapE r (mapM' key g l) es cl :: τ)) (hl : cl ≤ last) :
    StepS P o ρ σ fun d' σ' => (remOf es seen l = [] ∧ d' = .tup [.bool false] ∧ σ' = .map r (mapM' key g l) :: τ) ∨ ∃ (q : α × β) (e : MapEntry), (remOf es seen l).Perm (q :: remOf es (seen.push e.born) l) ∧ CurE es l e q ∧ d' = .tup [.bool true, key q.1, g q.2] ∧ σ' = .iter b r cl (seen.push e.born) cl :: .mapE r (mapM' key g l) es cl :: τ := fun K p a w hi h => by
  have h1 := h x (by rw [ho]; simp [Op.operands]) _ hx
  simp only [Rep] at h1
  have hi' := hi.perm hσ
  have i1 : w.heap[b]? = some (.mapIter (some r) cl seen last) := hi'.ok _ (List.mem_cons_self ..)
  obtain ⟨g1, g2, g3, g4, g5⟩ := hi'.ok _ (List.mem_cons_of_mem _ (List.mem_cons_self ..))
  have hlen := repKV_len g2
  rcases run_next_at (P := P) w o.type b r cl last seen es cl i1 g1 g5 hl with ⟨e0, hr⟩ | ⟨e, he, w1, hw1, hr⟩
  · have hr' : (execOp a.eval o).run P w = .ok (.value (.tuple #[.bool false])) w := by
      unfold execOp
      rw [ho]
      simp [h1, hr]
    unfold Oper.wp
    rw [hr']
    refine ⟨_, .tup [.bool false], _, p, rfl, .inl ⟨?_, rfl, rfl⟩, ?_, inv_close hi', Grow.refl _ _⟩
    · unfold remOf
      unfold leftOf at e0
      have e1 : es.filter (fun e => !seen.contains e.born) = #[] := Array.eq_empty_of_size_eq_zero e0
      rw [Array.filter_eq_empty_iff] at e1
      rw [List.map_eq_nil_iff, List.filter_eq_nil_iff]
      intro x hx
      exact e1 x.1 (by simpa using (List.of_mem_zip (show (x.1, x.2) ∈ es.toList.zip l from hx)).1)
    · simp only [Rep, Repl]
      exact ⟨[.bool false], rfl, _, _, rfl, rfl, rfl⟩
  · have hr' : (execOp a.eval o).run P w = .ok (.value (.tuple #[.bool true, e.key, e.val])) (ChangeMaps.setBlock w1 b (.mapIter (some r) cl (seen.push e.born) cl)) := by
      unfold execOp
      rw [ho]
      simp [h1, hr]
    unfold Oper.wp
    rw [hr']
    have he' : e ∈ es.toList ∧ seen.contains e.born = false := by
      unfold leftOf at he
      simpa using he
    obtain ⟨i, hi1⟩ := List.getElem?_of_mem he'.1
    have hil : i < l.length := by
      have := (List.getElem?_eq_some_iff.1 hi1).1
      simp only [List.length_map] at hlen
      omega
    have hq : l[i]? = some l[i] := List.getElem?_eq_getElem hil
    obtain ⟨rk, rv⟩ := repKV_at (k := key l[i].1) (d := g l[i].2) g2 hi1 (by simp [mapM', hq])
    have hiw : Inv K p (.iter b r cl seen last :: .mapE r (mapM' key g l) es cl :: τ) w1 ∧ Grow p w p w1 := by
      rcases hw1 with rfl | rfl
      · exact ⟨hi', Grow.refl _ _⟩
      · exact ⟨hi'.drew, grow_drew p w⟩
    have j1 : w1.heap[b]? = some (.mapIter (some r) cl seen last) := hiw.1.ok _ (List.mem_cons_self ..)
    have hset := MapKept.heap_set (o' := .mapIter (some r) cl (seen.push e.born) cl) j1
    have gr : Grow p w1 p (ChangeMaps.setBlock w1 b (.mapIter (some r) cl (seen.push e.born) cl)) := fun a' ha => ⟨ha, cell_same (hset.2 _ (by
      intro e'
      obtain ⟨u, hu⟩ := hiw.1.pub a' ha
      unfold World.cell? at hu
      rw [e', j1] at hu
      cases hu))⟩
    have g' := hiw.2.tr gr
    refine ⟨_, .tup [.bool true, key l[i].1, g l[i].2], _, p, rfl, .inr ⟨l[i], e, remOf_step es.toList l seen i e l[i] g4 hi1 hq he'.2, ⟨i, hi1, hq⟩, rfl, rfl⟩, ?_, ?_, g'⟩
    · simp only [Rep, Repl]
      exact ⟨[.bool true, e.key, e.val], rfl, .bool true, _, rfl, rfl, e.key, _, rfl, rk.grow g', e.val, _, rfl, rv.grow g', rfl⟩
    · refine hiw.1.write (b := b) rfl rfl gr (fun a' ha => .inl ha) hset.1 (fun a' ha => ?_) rfl rfl rfl (by simp [ChangeMaps.setBlock]) fun k hk => hset.2 k hk
      obtain ⟨u, hu⟩ := hiw.1.pub a' ha
      exact ⟨u, by rw [(gr a' ha).2]; exact hu⟩
theorem s_entry {x : Operand} {b r cl : Nat} {seen : Array Nat} {es : Array MapEntry} {l : List (α × β)} {q : α × β} {e : MapEntry} {σ : St} (ho : o.op = .entry x) (hx : ρ x = some (.ref b 0 [])) (h1 : .iter b r cl (seen.push e.born) cl ∈ σ) (h2 : .mapE r (mapM' key g l) es cl ∈ σ) (hc : CurE es l e q) :
    StepS P o ρ σ fun d' σ' => d' = .tup [key q.1, g q.2] ∧ σ' = σ := fun K p a w hi h => by
  have h3 := h x (by rw [ho]; simp [Op.operands]) _ hx
  simp only [Rep] at h3
  have i1 : w.heap[b]? = some (.mapIter (some r) cl (seen.push e.born) cl) := hi.ok _ h1
  obtain ⟨g1, g2, g3, g4, g5⟩ := hi.ok _ h2
  obtain ⟨i, c1, c2⟩ := hc
  have hr : (execOp a.eval o).run P w = .ok (.value (.tuple #[e.key, e.val])) w := by
    unfold execOp
    rw [ho]
    simp [h3, run_entry_at (P := P) w b r cl seen es cl e i1 g1 (List.mem_of_getElem? c1) g4]
  obtain ⟨rk, rv⟩ := repKV_at (k := key q.1) (d := g q.2) g2 c1 (by simp [mapM', c2])
  unfold Oper.wp
  rw [hr]
  refine ⟨_, _, _, p, rfl, ⟨rfl, rfl⟩, ?_, hi, Grow.refl _ _⟩
  simp only [Rep, Repl]
  exact ⟨[e.key, e.val], rfl, e.key, _, rfl, rk, e.val, _, rfl, rv, rfl⟩
end
section
variable {P : Program} {f : FuncId} {fn : Func} {K : Ctx} {R : D → St → Prop} {k : List Item} {env : Env} {σ τ : St}
theorem g_mapClose {b r c : Nat} {seen : Array Nat} {last : Nat} {kv : List (D × D)} {es : Array MapEntry} {cl : Nat} (hσ : σ.Perm (.iter b r c seen last :: .mapE r kv es cl :: τ)) (h : Goes P f fn K R k env (.map r kv :: τ)) : Goes P f fn K R k env σ := fun p a w hi hr => h p a w (inv_close (hi.perm hσ)) hr
end
theorem s_conv {P : Program} {o : Oper} {ρ : Operand → Option D} {t t' : TypeId} {x : Operand} {d : TypeDesc} {k k' : IntKind} {n : Int} (ho : o.op = .convert t t' x) (ht : P.underlying t = some d) (ht' : P.underlying t' = some (.int k)) (hx : ρ x = some (.int k' n)) : StepD P o ρ (.int k (k.wrap n)) := stepD_of fun p a w h => by
  have h1 := h x (by rw [ho]; simp [Op.operands]) _ hx
  simp only [Rep] at h1
  refine ⟨.int k (k.wrap n), ?_, by simp only [Rep]; exact ⟨trivial, wrap_idem _ _⟩⟩
  unfold execOp
  rw [ho]
  simp [h1.1, convert, run_underlying ht, run_underlying ht', Conv.intToInt]

/-! ### lists that are appended to and written -/
section
variable {P : Program} {o : Oper} {ρ : Operand → Option D} {α : Type} {f : α → D}
theorem m_appVec {x y : Operand} {t e : TypeId} {s by_ n : Nat} {σ τ : St} {u : Value} (l m : List α) {r : List α} {dy : D} (ho : o.op = .call { callee := .builtin .append, args := #[x, y], argTypes := #[t, t] }) (hE : ElT P t e s by_) (hx : ρ x = some (.vec u n)) (hy : ρ y = some dy) (hm : AsL dy (m.map f)) (hσ : σ.Perm (.vec u (l.map f) e s :: τ)) (hall : ∀ a, sz (f a) = s) (hr : appO by_ l m = some r) :
    StepS P o ρ σ fun d' σ' => ∃ u', d' = .vec u' r.length ∧ σ' = .vec u' (r.map f) e s :: τ := by
  obtain ⟨h1, h2, rfl⟩ := appO_some hr
  have h := s_appVec (P := P) (o := o) (ρ := ρ) (σ := σ) (τ := τ) (u := u) (l := l.map f) (m := m.map f) ho hE hx hy hm hσ (aszm hall) (by simpa using h1) (by simpa using h2)
  rw [← List.map_append, List.length_map] at h
  exact h
theorem m_indexVec {t e : TypeId} {x ix : Operand} {s by_ n : Nat} {u : Value} {k : IntKind} {m : Int} {q : α} {σ : St} (l : List α) (ho : o.op = .indexAddr t x ix) (hE : ElT P t e s by_) (hx : ρ x = some (.vec u n)) (hix : ρ ix = some (.int k m)) (hq : getI l m = some q) (hσ : .vec u (l.map f) e s ∈ σ) : StepS P o ρ σ fun d' σ' => d' = .mref (blkOf u) m.toNat s 0 [] ∧ σ' = σ := by
  obtain ⟨h0, h1⟩ := getI_some hq
  exact s_indexVec m.toNat ho hE hx hix (by omega) (by rw [List.length_map]; exact (List.getElem?_eq_some_iff.1 h1).1) hσ
end
theorem subT3 (t : T) : subD (encT t) [3] = some (.lst (t.ar.map encT)) := by
  simp [subD, encT, fsT_eq]
section
variable {P : Program} {f : FuncId} {fn : Func} {K : Ctx} {R : D → St → Prop} {k : List Item} {env : Env} {σ : St}
theorem g_lenC {b : Nat} (path : List Nat) {d0 dx : D} {l : List D} (hσ : .cell b d0 ∈ σ) (hp : subD d0 path = some dx) (hl : AsL dx l) (h : l.length ≤ 9223372036854775807 → Goes P f fn K R k env σ) : Goes P f fn K R k env σ :=
  g_fact (fun p a w hi _ => by
    obtain ⟨v0, ty, h1, _⟩ := hi.ok _ hσ
    obtain ⟨v, h3, _⟩ := subD_rep h1 hp
    obtain ⟨A, c, xs, _, g2, g3, _⟩ := hl.rep h3
    omega) h
theorem g_lenCV {b n : Nat} {u : Value} (path : List Nat) {d0 : D} (hσ : .cell b d0 ∈ σ) (hp : subD d0 path = some (.vec u n)) (h : n ≤ 9223372036854775807 → Goes P f fn K R k env σ) : Goes P f fn K R k env σ :=
  g_fact (fun p a w hi _ => by
    obtain ⟨v0, ty, h1, _⟩ := hi.ok _ hσ
    obtain ⟨v, h3, _⟩ := subD_rep h1 hp
    simp only [Rep] at h3
    obtain ⟨_, A, c, _, g2, g3⟩ := h3
    omega) h
end
end Go.Proofs.Ythcgefbigimgoaa


namespace Go.Proofs.Ythcgefbigimgoaa
set_option maxRecDepth 100000
open Go.RowKit

section
variable {p : Addr → Prop} {w : World}
theorem repl1 {d : D} {vs : List Value} (h : Repl p w [d] vs) : ∃ v, vs = [v] ∧ Rep p w d v := by
  simp only [Repl] at h
  obtain ⟨v, _, rfl, h1, rfl⟩ := h
  exact ⟨v, rfl, h1⟩
end
theorem gives1 {P : Program} {f : FuncId} {d : D} {b : Bool} (h : ∀ (p : Addr → Prop) (w : World) (v : Value), Rep p w d v → Calls P f #[v] w (Ret w (Is (.bool b)))) : Gives P f [d] (.bool b) :=
  gives_of_ret (v := .bool b) (fun p w => by simp only [Rep]) fun p w vs _ hv => by
    obtain ⟨v, rfl, h1⟩ := repl1 hv
    exact h p w v h1
theorem givesI1 {P : Program} {f : FuncId} {d : D} {n : Int} (hn : IntKind.i64.wrap n = n) (h : ∀ (p : Addr → Prop) (w : World) (v : Value), Rep p w d v → Calls P f #[v] w (Ret w (Is (.int .i64 n)))) : Gives P f [d] (.int .i64 n) :=
  gives_of_ret (v := .int .i64 n) (fun p w => by simp only [Rep]; exact ⟨trivial, hn⟩) fun p w vs _ hv => by
    obtain ⟨v, rfl, h1⟩ := repl1 hv
    exact h p w v h1

theorem sp_term_RightAtom (n : Nat) (hM : n ≤ 1000000000) (a : At) (hn : wtL a.ts ≤ n) : Gives Try.prog 52 [encA a] (.bool (rightA a)) := gives1 fun _ w v h => rightAtom_any n hM a v w hn (va_of h)
theorem sp_R3_RightAtom (n : Nat) (hM : n ≤ 1000000000) (a : At) (hn : wtL a.ts ≤ n) : Gives Try.prog 58 [encA a] (.bool (rightA a)) := gives1 fun _ w v h => refRightAtom_any n hM a v w hn (va_of h)
end Go.Proofs.Ythcgefbigimgoaa


namespace Go.Proofs.Ythcgefbigimgoaa
set_option maxRecDepth 100000
open Go.RowKit
theorem sp_R3_Size (n : Nat) (hM : n ≤ 1000000000) (t : T) (hn : wt t ≤ n) : Gives Try.prog 56 [encT t] (.int .i64 (sizeT t : Nat)) := givesI1 (wrap64 (by have := size_wt t; omega)) fun _ w v h => refSize_any n t v w hn hM (vt_of h)
end Go.Proofs.Ythcgefbigimgoaa


namespace Go.Proofs.Ythcgefbigimgoaa
set_option maxRecDepth 100000
open Go.RowKit

abbrev encI (l : List Int) : D := .lst (l.map (D.int .i64))

/-- A row of numbers, laid from base on. -/
def RowI (base : Nat) (l : List Int) (v : Value) (w : World) : Prop := IsRow base 3 1 l.length (l.map (Value.int .i64)) v w
theorem own_base {w : World} {base base' : Nat} {e : TypeId} {size n : Nat} {v : Value} {xs : List Value} (h : w.ownsRow base e size v n xs) (hb : base' ≤ base) : w.ownsRow base' e size v n xs := by
  refine ⟨h.1, ?_⟩
  rcases h.2 with h3 | ⟨g, cap, cur, hv, hg, h4⟩
  · exact .inl h3
  · exact .inr ⟨g, cap, cur, hv, by omega, h4⟩
theorem onceEI_any (d : Nat) (hd : d ≤ 1000000000) (ts : List T) (sv : Value) (w : World) (g : Nat) (hg : w.heap.size = g) (hn : wtL ts ≤ d) (hs : SlT w ts sv) :
    Calls Try.prog 54 #[.func (.func 63) #[] #[.pointer (some ⟨g, 0, none⟩)]] (w.alloc (.cells #[sv] 43)) (Ret w (RowI w.heap.size (uniq [] (occL ts)))) := by
  subst hg
  exact (once_any d hd ts sv w.heap.size _ hn (Boxed.new w _ _).cell (hs.ext ((Ext.rfl' w).al _))).mono fun _ _ ⟨v, h1, ⟨A, c, h2, h4⟩, h3⟩ => ⟨v, h1, ⟨A, c, h2, own_base h4 (by simp)⟩, ((Ext.rfl' w).al _).tr h3⟩
theorem atomVars_row (d : Nat) (hd : d ≤ 1000000000) (a : At) (v : Value) (w : World) (hn : wtL a.ts ≤ d) (hv : VA w a v) : Calls Try.prog 44 #[v] w (Ret w (RowI w.heap.size (uniq [] (occL a.ts)))) := by
  obtain ⟨sl, rfl, hs, -⟩ := hv.open_
  have hs' := hide hs
  obtain ⟨A, c, xs, rfl, -⟩ := hs
  clear hv
  go_enter Try.func44, Try.ntmps44
  go_wp2_with fail
  refine (each_any _ _ A a.ts.length c rfl).mono ?_
  rintro e w1 ⟨rfl, rfl⟩
  go_wp2_with fail
  refine (onceEI_any d hd a.ts _ _ _ (by simp) hn (SlT.ext (unhide hs') ((Ext.rfl' w).al _))).mono ?_
  rintro e w2 ⟨v, rfl, hr, he⟩
  have he := hide he
  obtain ⟨A2, c2, rfl, hr⟩ := hr
  have hr := hide (own_base hr (show w.heap.size ≤ _ by simp))
  go_wp2
  go_ret
  exact Ret.mk ⟨A2, c2, rfl, unhide hr⟩ (((Ext.rfl' w).al _).tr (unhide he))
/-- A contract whose result is a new row of numbers. -/
theorem gives_of_row {P : Program} {f : FuncId} {ds : List D} {l : List Int} (h : ∀ (p : Addr → Prop) (w : World) (vs : List Value), Repl p w ds vs → (∀ x ∈ l, I64 x) ∧ Calls P f vs.toArray w (Ret w (RowI w.heap.size l))) : Gives P f ds (encI l) := fun w p vs hi hv => by
  obtain ⟨hI, hc⟩ := h p w vs hv
  refine hc.mono fun e w' hr => ?_
  obtain ⟨v, rfl, ⟨A, c, rfl, ho⟩, he⟩ := hr
  have hcell : ∀ a, p a → w'.cell? a = w.cell? a := fun a ha => by
    obtain ⟨u, hu⟩ := hi.pub a ha
    exact (he.cellOf hu).trans hu.symm
  have hreps : ∀ (q : Addr → Prop) (m : List Int), (∀ x ∈ m, I64 x) → Reps q w' (m.map (D.int .i64)) (m.map (Value.int .i64)) := fun q m => by
    induction m with
    | nil => exact fun _ => Reps.nil _ _
    | cons x m ih =>
      intro hx
      have := hx x (List.mem_cons_self ..)
      have h1 : Rep q w' (.int .i64 x) (.int .i64 x) := by
        simp only [Rep]
        exact ⟨trivial, wrap64 (by unfold I64 at this; omega)⟩
      simpa [Value.cells] using Reps.cons h1 (ih fun y hy => hx y (List.mem_cons_of_mem _ hy))
  have hones : ∀ u ∈ l.map (Value.int .i64), u.oneCell' = true := fun u hu => by
    obtain ⟨x, _, rfl⟩ := List.mem_map.1 hu
    rfl
  -- what is given out: the row
  refine .inl ⟨_, encI l, [], fun a => p a ∨ (w.heap.size ≤ a.block ∧ a.spot = none ∧ ∃ u, w'.cell? a = some u), rfl, rfl, ?_, ?_⟩
  · simp only [Rep, List.length_map]
    have hlen := ho.1
    rcases ho.2 with ⟨h1, h2⟩ | ⟨g, cap, cur, h1, h2, h3, h4, h5, h6, h7⟩
    · injection h1 with h1 h8 h9
      subst h1 h9
      have : l = [] := List.eq_nil_of_length_eq_zero h8
      subst this
      exact ⟨none, 0, [], rfl, by simp, by omega, .inl rfl, Reps.nil _ _, by simp⟩
    · injection h1 with h1 h8 h9
      subst h1 h9
      refine ⟨_, c, l.map (Value.int .i64), rfl, h4, by unfold maxLen at h5; omega, .inr ⟨g, 0, rfl, fun j u hu => ?_⟩, hreps _ l hI, hones⟩
      have hu' : w'.cell? ⟨g, 0 + j, none⟩ = some u := by
        rw [Nat.zero_add, cell_of_row _ _ _ _ _ _ h3]
        rw [← h7, List.getElem?_take] at hu
        split at hu
        · simpa using hu
        · cases hu
      exact ⟨.inr ⟨h2, rfl, u, hu'⟩, hu'⟩
  · exact { ok := fun o ho => (by cases ho), nd := List.nodup_nil, mine := fun b hb => (by cases hb), pub := fun a ha => (by
        rcases ha with ha | ⟨_, _, u, hu⟩
        · obtain ⟨u, hu⟩ := hi.pub a ha
          exact ⟨u, he.cellOf hu⟩
        · exact ⟨u, hu⟩), gr := fun a ha => ⟨.inl ha, hcell a ha⟩, neu := fun a ha => ha.elim .inl fun h => .inr (.inl h.1), os := he.os, tape := he.tape, output := he.output, size := he.size, block := fun b hb _ => he.block b hb }
theorem i64_uniqL {w : World} {l : List T} {v : Value} (h : SlT w l v) : ∀ x ∈ uniq [] (occL l), I64 x := fun x hx => by
  obtain ⟨A, c, xs, _, _, _, _, h5⟩ := h
  exact occL_i64 l xs h5 x (by simpa using mem_uniq.1 hx)
theorem sp_term_AtomVars (n : Nat) (hM : n ≤ 1000000000) (a : At) (hn : wtL a.ts ≤ n) : Gives Try.prog 44 [encA a] (encI (uniq [] (occL a.ts))) := gives_of_row fun p w vs h => by
  obtain ⟨v, rfl, h'⟩ := repl1 h
  obtain ⟨sl, _, hs, _⟩ := (va_of h').open_
  exact ⟨i64_uniqL hs, atomVars_row n hM a v w hn (va_of h')⟩
end Go.Proofs.Ythcgefbigimgoaa


namespace Go.Proofs.Ythcgefbigimgoaa
set_option maxRecDepth 100000
open Go.RowKit

theorem ifS {α : Type} {c : Prop} [Decidable c] {a b : α} (h : (if c then some a else none) = some b) : c ∧ a = b := by
  split at h
  · exact ⟨by assumption, Option.some.inj h⟩
  · cases h
noncomputable def x_rightA (a : At) : Option (Bool) := if wtL a.ts ≤ 1000000000 then some (rightA a) else none

theorem x_rightA_eq (a : At) (h : wtL a.ts ≤ 1000000000) : x_rightA a = some (rightA a) := if_pos h

theorem lx_term_RightAtom (a : At) (res : Bool) (h : x_rightA a = some res) : Gives Try.prog 52 [encA a] (.bool res) := by
  obtain ⟨h1, rfl⟩ := ifS h
  exact sp_term_RightAtom 1000000000 (Nat.le_refl _) a h1

theorem lx_constraintref03_RightAtom (a : At) (res : Bool) (h : x_rightA a = some res) : Gives Try.prog 58 [encA a] (.bool res) := by
  obtain ⟨h1, rfl⟩ := ifS h
  exact sp_R3_RightAtom 1000000000 (Nat.le_refl _) a h1

noncomputable def x_varsA (a : At) : Option (List Int) := if wtL a.ts ≤ 1000000000 then some (uniq [] (occL a.ts)) else none

theorem x_varsA_eq (a : At) (h : wtL a.ts ≤ 1000000000) : x_varsA a = some (uniq [] (occL a.ts)) := if_pos h

theorem lx_term_AtomVars (a : At) (res : List Int) (h : x_varsA a = some res) : Gives Try.prog 44 [encA a] (encI res) := by
  obtain ⟨h1, rfl⟩ := ifS h
  exact sp_term_AtomVars 1000000000 (Nat.le_refl _) a h1

noncomputable def x_sizeT (t : T) : Option (Int) := if wt t ≤ 1000000000 then some (((sizeT t : Nat) : Int)) else none

theorem x_sizeT_eq (t : T) (h : wt t ≤ 1000000000) : x_sizeT t = some (((sizeT t : Nat) : Int)) := if_pos h

theorem lx_constraintref03_Size (t : T) (res : Int) (h : x_sizeT t = some res) : Gives Try.prog 56 [encT t] (.int .i64 res) := by
  obtain ⟨h1, rfl⟩ := ifS h
  exact sp_R3_Size 1000000000 (Nat.le_refl _) t h1
end Go.Proofs.Ythcgefbigimgoaa

