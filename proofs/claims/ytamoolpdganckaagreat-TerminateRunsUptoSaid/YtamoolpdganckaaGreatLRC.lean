/-
 Texts of the seat, merged.
-/
import Derived.Test.YtamoolpdganckaaGreatLRB
set_option linter.unusedVariables false
set_option linter.unusedSimpArgs false
set_option linter.unnecessarySimpa false
set_option linter.all false
set_option maxHeartbeats 8000000
namespace Go.Proofs.YtamoolpdganckaaGreat
set_option maxRecDepth 100000
open Go.RowKit
section
variable {P : Program} {o : Oper} {ρ : Operand → Option D} {d : D}
theorem qDd {x : Operand} {t e t' : TypeId} {s by_ : Nat} {dx : D} {l : List D} {σ : St} (ho : o.op = .binOp .eql t x (.const (.slice none 0 0)) t') (hE : ElT P t e s by_) (hx : ρ x = some dx) (hl : AsL dx l) (hall : zJ s l) : zC P o ρ σ fun d' σ' => ∃ b, d' = .bool b ∧ (b = true → l = []) ∧ σ' = σ := fun K p a w hi h => by
 obtain ⟨A, c, xs, h1, h2, h3, h4, h5, _⟩ := hl.rep (h x (by rw [ho]; simp [Op.operands]) _ hx)
 have hr : (execOp a.eval o).run P w = .ok (.value (.bool A.isNone)) w := by
  unfold execOp
  rw [ho]
  have e1 : eqGuard .eql t x (.const (.slice none 0 0)) (.slice A l.length c) (.slice none 0 0) = pure () := rfl
  have e2 : binOp .eql t (.slice A l.length c) (.slice none 0 0) = (do pure (.bool (← Op.equal t (.slice A l.length c) (.slice none 0 0)))) := rfl
  have e3 : a.eval (.const (.slice none 0 0)) = .slice none 0 0 := rfl
  simp [h1, e1, e2, e3, run_equal_slice_nil w t e A l.length c hE.1]
 unfold Oper.wp
 rw [hr]
 refine ⟨_, .bool A.isNone, σ, p, rfl, ⟨_, rfl, fun hb => ?_, rfl⟩, by simp only [Rep], hi, zT.refl p w⟩
 cases A with
 | some ad => cases hb
 | none =>
  rcases h4 with h4 | ⟨b, o', h4, _⟩
  subst h4
  have := h5.len
  rw [hall.szs] at this
  cases l with
  | nil => rfl
  | cons y l =>
   have h9 := vw (show 0 < (y :: l).length by simp) hE.2.2
   rw [← this] at h9
   simp at h9
  cases h4
theorem qyB {K : Ctx} {p : Addr → Prop} {σ : St} {w : World} {e : TypeId} {s cap : Nat} {l : List D} {xs junk : List Value} (hi : Inv K p σ w) (hr : zz p w l xs) (h1 : ∀ u ∈ xs, u.oneCell' = true) (hall : zJ s l) (hs0 : 0 < s) (hn : l.length ≤ cap) (hc : cap ≤ 9223372036854775807) :
 Rep p (w.alloc (.cells (xs ++ junk).toArray e)) (.arr w.heap.size s 0 l.length) (.slice (some ⟨w.heap.size, 0, none⟩) l.length cap) ∧ Inv K p (.arr w.heap.size l e s :: σ) (w.alloc (.cells (xs ++ junk).toArray e)) ∧ zT p w p (w.alloc (.cells (xs ++ junk).toArray e)) := by
 have g0 := qgy hi.pub (.cells (xs ++ junk).toArray e)
 refine ⟨?_, ?_, g0⟩
 · simp only [Rep]
   exact ⟨_, cap, rfl, hn, hc, .inr og⟩
 · refine (hi.alloc _).more ⟨hall, by omega, hs0, .inr ⟨xs, junk, hr.grow g0, h1, heap_alloc_new w _, fun a ha hb => ?_⟩⟩ fun b hb => ?_
   · obtain ⟨u, hu⟩ := hi.pub a ha
     have := qoW hu
     omega
   · cases l with
     | nil => simp [Ob.blk] at hb
     | cons y l =>
      simp only [Ob.blk, Option.some.injEq] at hb
      subst hb
      exact ⟨.inl hi.size, fun hm => by have := hi.lt hm; omega⟩
theorem qAW {x y : Operand} {t e : TypeId} {s by_ : Nat} {m : List D} {dy : D} {σ : St} (ho : o.op = .call { callee := .builtin .append, args := #[x, y], argTypes := #[t, t] }) (hE : ElT P t e s by_) (hx : ρ x = some (.full [])) (hy : ρ y = some dy) (hm : AsL dy m) (hml : zJ s m) (hb : m.length * by_ ≤ 140737488355328) : zC P o ρ σ fun d' σ' => ∃ b, d' = .arr b s 0 m.length ∧ σ' = .arr b m e s :: σ := fun K p a w hi h => by
 obtain ⟨hu, ⟨z, hz, hzs⟩, hs0⟩ := hE
 obtain ⟨i, hii, hz', hsize, hby⟩ := info_parts hz
 have hxv := h x (by rw [ho]; simp [Op.operands, Call.operands]) _ hx
 obtain ⟨A, c, ys, g1, g2, g3, g4, g5, g6⟩ := hm.rep (h y (by rw [ho]; simp [Op.operands, Call.operands]) _ hy)
 simp only [Rep, jV] at hxv
 obtain ⟨B, xs, k1, k2, k3, k4, k5⟩ := hxv
 have hyl : ys.length = m.length * s := by rw [g5.len, hml.szs]
 have hrun0 : ∀ r, (Builtin.append_ #[t, t] o.type #[.slice B 0 0, .slice A m.length c]).run P w = r → (execOp a.eval o).run P w = r.andThen fun v w' => .ok (.value v) w' := fun r hr => by
  subst hr
  unfold execOp
  simp only [ho, resolve, invoke, builtin, Sem.run_bind, Sem.run_pure, Result.andThen_ok, List.map_toArray, jm, j7, k1, g1]
 by_cases hm0 : m.length = 0
 have hm0' : m = [] := jA hm0
 subst hm0'
 have hr : (Builtin.append_ #[t, t] o.type #[.slice B 0 0, .slice A 0 c]).run P w = .ok (.slice B 0 0) w := by
  cases A <;> cases B <;> simp [Builtin.append_, run_underlying hu, sizeOf, typeInfo, hii, Builtin.lenOf, Builtin.firstCells, loadCells, loadCellsFrom, storeCells]
 unfold Oper.wp
 rw [hrun0 _ hr]
 refine ⟨_, .arr 0 s 0 0, _, p, rfl, ⟨0, rfl, rfl⟩, ?_, hi.more (o := .arr 0 [] e s) ⟨zJ.nil s, by simp, hs0, .inl rfl⟩ (fun b hb => by simp [Ob.blk] at hb), zT.refl p w⟩
 simp only [Rep]
 exact ⟨B, 0, rfl, jk _, by omega, Or.inl trivial⟩
 have hys : ys ≠ [] := fun hys => by
  rw [hys] at hyl
  have := vw (vx hm0) hs0
  simp at hyl
  omega
 rcases g4 with g4 | ⟨b, o', rfl, hcell⟩
 exact absurd g4 hys
 have hnews : ∀ j v, ys[j]? = some v → w.cell? ((⟨b, o', none⟩ : Addr).add j) = some v := fun j v hv => by rw [zbk]; exact (hcell j v hv).2
 have hmpos : 0 < m.length := vx hm0
 subst hsize
 subst hby
 have hcm : grownCap w m.length 0 e ≤ maxLen := grownCap_le_maxLen w m.length 0 e (by unfold maxLen; omega)
 have hmx : maxLen = 9223372036854775807 := rfl
 have hge := grownCap_ge w m.length 0 e
 obtain ⟨q1, q2, q3⟩ := qyB (K := K) (p := p) (σ := σ) (w := w.drew) (e := e) (cap := grownCap w m.length 0 e) (l := m) (xs := ys) (junk := (Builtin.zeroCells z.cells (grownCap w m.length 0 e - m.length)).toList) hi.drew (g5.grow (qhs p w)) g6 hml hs0 hge oa
 have hcells : (ys ++ (Builtin.zeroCells z.cells (grownCap w m.length 0 e - m.length)).toList).toArray = ys.toArray ++ Builtin.zeroCells z.cells (grownCap w m.length 0 e - m.length) := by
  apply j3.1
  simp
 rw [hcells] at q1 q2 q3
 cases B with
 | none =>
  have hr := run_append_nil (P := P) w t o.type e i z hu hii hz' ⟨b, o', none⟩ m.length c ys hyl hnews oa oa oa
  unfold Oper.wp
  rw [hrun0 _ hr]
  exact ⟨_, _, _, p, rfl, ⟨_, rfl, rfl⟩, q1, q2, (qhs p w).tr q3⟩
 | some ad =>
  have hr := run_append_grow (P := P) w t o.type e i z hu hii hz' ad 0 0 [] og og ⟨b, o', none⟩ m.length c ys hyl hnews oa oa (growslice_fits oa (by simpa using hb))
  simp only [ju] at hr
  have e0 : ([] : List Value).toArray ++ ys.toArray ++ Builtin.zeroCells z.cells (grownCap w m.length 0 e - m.length) = ys.toArray ++ Builtin.zeroCells z.cells (grownCap w m.length 0 e - m.length) := by simp
  rw [e0] at hr
  unfold Oper.wp
  rw [hrun0 _ hr]
  exact ⟨_, _, _, p, rfl, ⟨_, rfl, rfl⟩, q1, q2, (qhs p w).tr q3⟩
theorem qnE {p : Addr → Prop} {w : World} {z : D} {v : Value} (hv : Rep p w z v) : ∀ n, zz p w (List.replicate n z) ((List.replicate n v).flatMap fun v => v.cells.toList)
 | 0 => zz.nil _ _
 | n + 1 => by
  simp only [vD, vn]
  exact zz.cons hv (qnE hv n)
theorem qyk (zc : Array Value) (n : Nat) (hs : 0 < zc.size) : (madeCells zc (n * zc.size)).toList = (List.replicate n zc).flatMap fun z => z.toList := by
 apply List.ext_getElem?
 intro j
 have gen : ∀ n j, ((List.replicate n zc).flatMap fun z => z.toList)[j]? = if j < n * zc.size then zc[j % zc.size]? else none := by
  intro n
  induction n with
  | zero => intro j; simp
  | succ n ih =>
   intro j
   simp only [vD, vn]
   by_cases hj : j < zc.size
   rw [jT (by simpa using hj), if_pos (by rw [jy, jU]; omega), Nat.mod_eq_of_lt hj]
   simp
   rw [vp oe, ih]
   simp only [jW]
   have e1 : (j - zc.size) % zc.size = j % zc.size := by
    conv => rhs; rw [← Nat.sub_add_cancel (Nat.le_of_not_lt hj), Nat.add_mod_right]
   rw [e1, jy, jU]
   by_cases h2 : j < n * zc.size + zc.size
   rw [if_pos h2, if_pos oa]
   rw [if_neg h2, if_neg oa]
 rw [gen]
 unfold madeCells
 by_cases hj : j < n * zc.size
 rw [if_pos hj]
 have hm : j % zc.size < zc.size := Nat.mod_lt _ hs
 simp [hj, hm]
 rw [if_neg hj]
 simp; omega
theorem qyI {t e : TypeId} {x y : Operand} {s by_ n : Nat} {k k' : IntKind} {a1 a2 : Int} {z : D} {σ : St} (ho : o.op = .makeSlice t x y) (hE : ElT P t e s by_) (hZ : ym P e z) (hx : ρ x = some (.int k a1)) (hn1 : a1 = (n : Int)) (hy : ρ y = some (.int k' a2)) (hn2 : a2 = (n : Int)) (hb : by_ * n ≤ 281474976710656) (hc : n ≤ 9223372036854775807) :
 zC P o ρ σ fun d' σ' => ∃ b, d' = .arr b s 0 n ∧ σ' = .arr b (List.replicate n z) e s :: σ := fun K p a w hi h => by
 obtain ⟨hu, ⟨zv, hz, hzs⟩, hs0⟩ := hE
 obtain ⟨i, hii, hz', hsize, hby⟩ := info_parts hz
 have h1 := h x (by rw [ho]; simp [Op.operands]) _ hx
 have h2 := h y (by rw [ho]; simp [Op.operands]) _ hy
 simp only [Rep] at h1 h2
 subst hn1 hn2
 have hbi : (i.bytes : Int) * (n : Int) ≤ 281474976710656 := by
  have : ((i.bytes * n : Nat) : Int) ≤ 281474976710656 := by rw [hby]; omega
  rwa [Int.natCast_mul] at this
 have hr := run_make (P := P) w t e i zv hu hii hz' k k' (n : Int) (n : Int) oa (jX _) hbi oa
 simp only [vC] at hr
 have hrun : (execOp a.eval o).run P w = .ok (.value (.slice (some ⟨w.heap.size, 0, none⟩) n n)) (w.alloc (.cells (madeCells zv.cells (n * i.size)) e)) := by
  unfold execOp
  rw [ho]
  simp [h1.1, h2.1, hr]
 obtain ⟨v, v', q1, q2, q3, q4⟩ := hZ.rep p w
 rw [hii] at q1
 simp only [Option.map_some, Option.some.injEq] at q1
 rw [hz'] at q1
 injection q1 with q1
 subst q1
 have hsz : sz z = s := by rw [← Rep.sz q2, q3, hzs]
 have hone : ∀ u ∈ (List.replicate n v').flatMap (fun (v : Value) => v.cells.toList), u.oneCell' = true := fun u hu => by
  obtain ⟨v'', hv'', hu⟩ := Jb.1 hu
  rw [Jl hv''] at hu
  exact Rep.one q2 q4 u hu
 have hcells : madeCells zv.cells (n * i.size) = (((List.replicate n v').flatMap fun (v : Value) => v.cells.toList) ++ ([] : List Value)).toArray := by
  apply j3.1
  rw [hsize, ← hzs, qyk _ _ oa]
  simp only [js]
  induction n with
  | zero => rfl
  | succ m ih =>
   clear ih
   have : ∀ m, (List.replicate m zv.cells).flatMap (fun z => z.toList) = (List.replicate m v').flatMap fun (v : Value) => v.cells.toList := by
    intro m
    induction m with
    | zero => rfl
    | succ m ih => simp only [vD, vn, ih, q3]
   exact this (m + 1)
 unfold Oper.wp
 rw [hrun, hcells]
 obtain ⟨r1, r2, r3⟩ := qyB (K := K) (p := p) (σ := σ) (w := w) (e := e) (cap := n) (l := List.replicate n z) (xs := (List.replicate n v').flatMap fun (v : Value) => v.cells.toList) (junk := ([] : List Value)) hi (qnE q2 n) hone (fun d hd => by rw [Jl hd]; exact hsz) hs0 og hc
 rw [List.length_replicate] at r1
 exact ⟨_, _, _, p, rfl, ⟨_, rfl, rfl⟩, r1, r2, r3⟩
theorem qxH {t e : TypeId} {x ix : Operand} {s by_ b lo n : Nat} {k : IntKind} {m : Int} (j : Nat) (ho : o.op = .indexAddr t x ix) (hE : ElT P t e s by_) (hx : ρ x = some (.arr b s lo n)) (hix : ρ ix = some (.int k m)) (hm : m = (j : Int)) (hj : j < n) : zD P o ρ (.mref b (lo + j) s 0 []) := qeF fun p a w h => by
 have h1 := h x (by rw [ho]; simp [Op.operands]) _ hx
 have h7 := h ix (by rw [ho]; simp [Op.operands]) _ hix
 simp only [Rep] at h1 h7
 obtain ⟨A, c, h1, h2, h3, h4⟩ := h1
 have h4 := h4.resolve_left oa
 subst h4 hm
 obtain ⟨i, hi, hin⟩ := jQ.1 hE.size
 refine ⟨.pointer (some ⟨b, (lo + j) * s + 0, none⟩), ?_, by simp only [Rep]⟩
 unfold execOp
 rw [ho]
 simp [h1, h7.1, Instr.indexAt, asIntOf, run_underlying hE.1, sizeOf, typeInfo, hi, hin, hj, zbk, jy]
theorem qBZ {s : TypeId} {x : Operand} {f off b i sz' ofs : Nat} {path : List Nat} (ho : o.op = .fieldAddr s x f) (hF : Fld P s f off) (hx : ρ x = some (.mref b i sz' ofs path)) : zD P o ρ (.mref b i sz' (ofs + off) (path ++ [f])) := qeF fun p a w h => by
 have h1 := h x (by rw [ho]; simp [Op.operands]) _ hx
 simp only [Rep] at h1
 refine ⟨.pointer (some ⟨b, i * sz' + ofs + off, none⟩), ?_, by simp only [Rep]; rw [jJ]⟩
 unfold execOp
 rw [ho]
 simp [h1, qnU hF]
theorem qq9 {t e : TypeId} {x : Operand} {n b i s off : Nat} {path : List Nat} {σ : St} {l : List D} {d0 : D} (ho : o.op = .load t x) (hx : ρ x = some (.mref b i s off path)) (hσ : .arr b l e s ∈ σ) (hl : l[i]? = some d0) (hs : yX d0 path = some d) (hoff : yt d0 path = off) (ht : Ty P t d.isAgg n) (hn : sz d = n) : zC P o ρ σ fun d' σ' => d' = d ∧ σ' = σ := fun K p a w hi h => by
 have h1 := h x (by rw [ho]; simp [Op.operands]) _ hx
 simp only [Rep] at h1
 obtain ⟨g1, g2, g0, g3⟩ := hi.ok _ hσ
 obtain ⟨xs, junk, g3, g4, g5, g6⟩ := g3.resolve_left (fun h => by rw [h] at hl; simp at hl)
 obtain ⟨v0, hv0, hc0⟩ := g3.at_cell hl
 obtain ⟨v, hv, hc⟩ := qkO hv0 hs
 have hmin : (l.take i).length = i := by have := (jt.1 hl).1; simp; omega
 rw [(g1.take i).szs, hmin] at hc0
 have hlr := qjj (P := P) (b := b) (o := i * s + off) ht hn hv (fun j y hy => by
  rw [cell_of_row _ _ _ _ _ _ g5, ← hoff]
  have := hc0 _ y (hc j y hy)
  have hlt := (jt.1 this).1
  simp only [vZ]
  rw [jJ, jT hlt]
  exact this)
 have hr : (execOp a.eval o).run P w = .ok (.value v) w := by
  unfold execOp
  rw [ho]
  simp [h1, Instr.loadAt, Instr.sureAddr, hlr]
 unfold Oper.wp
 rw [hr]
 exact ⟨v, d, σ, p, rfl, ⟨rfl, rfl⟩, hv, hi, zT.refl p w⟩
theorem qs2 {t e : TypeId} {x y : Operand} {n b i s off : Nat} {path : List Nat} {σ : St} (τ : St) {l : List D} {d0 dOld dn : D} {ag : Bool} (ho : o.op = .store t x y) (hx : ρ x = some (.mref b i s off path)) (hy : ρ y = some dn) (hw : Wk dn d) (hσ : σ.Perm (.arr b l e s :: τ)) (hl : l[i]? = some d0) (hp0 : d0.plain = true) (hs : yX d0 path = some dOld) (hoff : yt d0 path = off) (ht : Ty P t ag n) (hn : sz d = n) (hn' : sz dOld = n) (hp : d.plain = true) : zC P o ρ σ fun _ σ' => σ' = .arr b (l.set i (zaP d0 path d)) e s :: τ := fun K p a w hi h => by
 have h1 := h x (by rw [ho]; simp [Op.operands]) _ hx
 simp only [Rep] at h1
 have h2 := hw _ _ _ (h y (by rw [ho]; simp [Op.operands]) _ hy)
 have hi' := hi.perm hσ
 obtain ⟨g1, g2, g0, g3⟩ := hi'.ok _ (jd ..)
 obtain ⟨xs, junk, g3, g4, g5, g6⟩ := g3.resolve_left (fun h => by rw [h] at hl; simp at hl)
 obtain ⟨ii, hii, hin⟩ := jQ.1 ht.2
 have hsz : (a.eval y).cells.size = n := by rw [Rep.sz h2, hn]
 have hil := (jt.1 hl).1
 have hmin : (l.take i).length = i := by simp; omega
 obtain ⟨v0, hv0, hsplit, hlen1⟩ := g3.at_ hl
 obtain ⟨v', q1, q2, q3, q4, q5⟩ := qpK hv0 hs (by rw [hn, hn']) h2 hp hp0
 have hset := zz.set g3 hl q5 q1
 rw [(g1.take i).szs, hmin] at hsplit hlen1 hset
 have hd0 : sz d0 = s := g1 d0 (List.mem_of_getElem? hl)
 have hv0l : v0.cells.toList.length = s := by rw [← hd0]; simpa using Rep.sz hv0
 have hxl : xs.length = l.length * s := by rw [g3.len, g1.szs]
 have hle : (i + 1) * s ≤ l.length * s := jM s oa
 rw [jy, jU] at hle
 have hst := run_storeCells_at (P := P) b (i * s + off) e (a.eval y).cells.toList 0 (xs ++ junk).toArray w g5 (by
  simp only [jW, hsz, j4, j5, je]
  rw [hd0, hn, hoff] at q4
  omega) (Rep.one h2 hp)
 -- what the block holds now
 have hrow : ((xs ++ junk).toArray.toList.take (i * s + off + 0) ++ (a.eval y).cells.toList ++ (xs ++ junk).toArray.toList.drop (i * s + off + 0 + (a.eval y).cells.toList.length)).toArray = ((xs.take (i * s) ++ v'.cells.toList ++ xs.drop (i * s + s)) ++ junk).toArray := by
  congr 1
  simp only [j4, jW, hsz, ← hn]
  rw [q3, hoff]
  rw [hd0, hoff] at q4
  generalize hA : xs.take (i * s) = A at hsplit hlen1 ⊢
  generalize hB : xs.drop (i * s + s) = B
  rw [hd0, hB] at hsplit
  rw [hsplit]
  have e1 : (A ++ v0.cells.toList ++ B ++ junk).take (i * s + off) = A ++ v0.cells.toList.take off := by
   rw [← hlen1, ji, ji, vb, Jj oa]
  have e2 : (A ++ v0.cells.toList ++ B ++ junk).drop (i * s + off + sz d) = v0.cells.toList.drop (off + sz d) ++ (B ++ junk) := by
   rw [← hlen1, ji, ji, jJ, va, Jk oa]
  rw [e1, e2]
  simp only [ji]
 rw [hrow] at hst
 have hr : (execOp a.eval o).run P w = .ok .skip (w.setRow b ((xs.take (i * s) ++ v'.cells.toList ++ xs.drop (i * s + s)) ++ junk).toArray) := by
  unfold execOp
  rw [ho]
  simp only [h1, Instr.storeAt, Instr.sureAddr, storeVar, Sem.run_bind, Sem.run_pure, Result.andThen_ok, sizeOf, typeInfo, run_program, hii, hsz, hin, ne_eq, not_true_eq_false, if_false, hst]
 have hcell : ∀ a', p a' → (w.setRow b ((xs.take (i * s) ++ v'.cells.toList ++ xs.drop (i * s + s)) ++ junk).toArray).cell? a' = w.cell? a' := fun a' ha => qju (setRow_other w b _ _ (g6 a' ha))
 have gr : zT p w p (w.setRow b ((xs.take (i * s) ++ v'.cells.toList ++ xs.drop (i * s + s)) ++ junk).toArray) := fun a' ha => ⟨ha, hcell a' ha⟩
 have hblk : ∀ l' : List D, l'.length = l.length → (Ob.arr b l' e s).blk = some b := fun l' hl' => by
  cases l' with
  | nil => simp at hl'; omega
  | cons => rfl
 unfold Oper.wp
 rw [hr]
 refine ⟨Go.undef, .undef, _, p, rfl, rfl, by simp only [Rep], ?_, gr⟩
 rw [q5, hd0] at hset
 refine hi'.write (b := b) (hblk l rfl) (hblk _ og) gr (fun a' ha => .inl ha) ⟨fun e' he' => ?_, by simpa using g2, g0, .inr ⟨_, junk, hset.grow gr, fun u hu => ?_, setRow_heap w b _ _ _ _ g5, g6⟩⟩ (fun a' ha => ?_) rfl rfl rfl og fun k hk => setRow_other w b k _ hk
 rcases Jc he' with h | rfl
 exact g1 e' h
 rw [q5, hd0]
 rcases jl.1 hu with hu | hu
 rcases jl.1 hu with hu | hu
 exact g4 u (vd hu)
 exact Rep.one q1 q2 u hu
 exact g4 u (ve hu)
 obtain ⟨u, hu⟩ := hi.pub a' ha
 exact ⟨u, by rw [hcell a' ha]; exact hu⟩
theorem qnT {m : Md} {f : FuncId} {fn : Func} {K : Ctx} {R : D → St → Prop} {k : List Item} {env : Env} {σ τ : St} {e : TypeId} {b s n : Nat} {l : List D} (t : Nat) (hs : lk env t = some (.arr b s 0 n)) (hσ : σ.Perm (.arr b l e s :: τ)) (hn : n = l.length) (h : zk m P f fn K R k ((t, .lst l) :: env) τ) : zk m P f fn K R k env σ := fun p a w hi hr hnt hd => by
 have hi' := hi.perm hσ
 subst hn
 obtain ⟨g1, g2, g0, g3⟩ := hi'.ok _ (jd ..)
 have hv := hr t _ hs
 simp only [Rep] at hv
 obtain ⟨A, c, hv, hc1, hc2, hA⟩ := hv
 have step : ∀ p', zT p w p' w → Inv K p' τ w → Rep p' w (.lst l) (.slice A l.length c) → Rest m P f fn K R k a w := fun p' g hi2 hrep => h p' a w hi2 (fun t' d' ht' => by
  rw [qiY] at ht'
  by_cases htt : t = t'
  subst htt
  rw [if_pos rfl] at ht'
  injection ht' with ht'
  subst ht'
  rw [hv]
  exact hrep
  rw [if_neg htt] at ht'
  exact (hr t' d' ht').grow g) hnt hd
 by_cases hl0 : l = []
 subst hl0
 refine step p (zT.refl p w) hi'.tail ?_
 simp only [Rep]
 exact ⟨A, c, [], rfl, hc1, hc2, .inl rfl, zz.nil _ _, by simp⟩
 obtain ⟨xs, junk, g3, g4, g5, g6⟩ := g3.resolve_left hl0
 have hA' := hA.resolve_left (fun h => hl0 (jA h))
 have hblk : (Ob.arr b l e s).blk = some b := by
  cases l with
  | nil => exact absurd rfl hl0
  | cons => rfl
 have hbl : b < w.heap.size := (jE.1 g5).1
 have hm := hi'.mine b (qhG.2 ⟨_, jd .., hblk⟩)
 have hnd := hi'.nd
 have hne : b ∉ yR τ := by
  simp only [yR, j6, hblk, jP] at hnd
  exact hnd.1
 have hcell : ∀ j u, xs[j]? = some u → w.cell? ⟨b, 0 + j, none⟩ = some u := fun j u hu => by
  rw [ju, cell_of_row _ _ _ _ _ _ g5]
  have := (jt.1 hu).1
  simp only [vZ]
  rw [jT this]
  exact hu
 have hg := hi'.tail.give (fun a' => a'.block = b ∧ a'.spot = none ∧ a'.off < xs.length) fun a' ⟨e1, e2, e3⟩ => by
  obtain ⟨b', of, sp⟩ := a'
  simp only at e1 e2 e3
  subst e1 e2
  refine ⟨⟨xs[of], ?_⟩, hm, fun o' ho b' hb hab => ?_⟩
  have := hcell of xs[of] og
  simpa using this
  simp only at hab
  subst hab
  exact absurd (qhG.2 ⟨o', ho, hb⟩) hne
 refine step _ (ql1 p _ w) hg ?_
 simp only [Rep]
 refine ⟨A, c, xs, rfl, hc1, hc2, .inr ⟨b, 0, by rw [hA']; simp, fun j u hu => ⟨.inr ⟨rfl, rfl, ?_⟩, hcell j u hu⟩⟩, g3.grow (ql1 p _ w), g4⟩
 have := (jt.1 hu).1
 simp only
 omega
theorem qBv {e : TypeId} {s : Nat} {σ : St} (hs0 : 0 < s) (ho : o.op = .assign (.const (.slice none 0 0)) ∨ o.op = .move (.const (.slice none 0 0))) : zC P o ρ σ fun d' σ' => ∃ b, d' = .arr b s 0 0 ∧ σ' = .arr b [] e s :: σ := fun K p a w hi h => by
 have hr : (execOp a.eval o).run P w = .ok (.value (.slice none 0 0)) w := by
  unfold execOp
  rcases ho with ho | ho <;> rw [ho] <;> rfl
 unfold Oper.wp
 rw [hr]
 refine ⟨_, .arr 0 s 0 0, _, p, rfl, ⟨0, rfl, rfl⟩, ?_, hi.more (o := .arr 0 [] e s) ⟨zJ.nil s, by simp, hs0, .inl rfl⟩ (fun b hb => by simp [Ob.blk] at hb), zT.refl p w⟩
 simp only [Rep]
 exact ⟨none, 0, rfl, jk _, by omega, Or.inl trivial⟩
theorem qol {t e : TypeId} {parts : Array (Nat × Operand)} {s by_ : Nat} {σ : St} (ho : o.op = .buildSlice t 0 parts) (hE : ElT P t e s by_) (hps : parts.toList = []) : zC P o ρ σ fun d' σ' => ∃ u, d' = .own u [] ∧ σ' = .row u 0 e s :: σ := fun K p a w hi h => by
 obtain ⟨i, hii, hzz⟩ := jQ.1 hE.size
 have hr : (execOp a.eval o).run P w = .ok (.value (.slice (some ⟨w.heap.size, 0, none⟩) 0 0)) (w.alloc (.cells #[] e)) := by
  unfold execOp
  rw [ho]
  have : parts = #[] := j3.1 (by simpa using hps)
  subst this
  have e0 : Array.range 0 = #[] := rfl
  simp [Instr.buildSlice, run_underlying hE.1, sizeOf, typeInfo, hii, Instr.fill, newRow, e0]
 unfold Oper.wp
 rw [hr]
 obtain ⟨p', q1, q2, q3⟩ := qt9 (K := K) (p := p) (σ := σ) (w := w) (cur := #[]) (e := e) (s := s) (n := 0) (cap := 0) (l := []) (xs := []) hi og og (zz.nil _ _) og rfl (jk _) (by unfold maxLen; omega)
 exact ⟨_, _, _, p', rfl, ⟨_, rfl, rfl⟩, q1, q2, q3⟩
theorem qoB (d x : D) : zaP d [] x = x := by cases d <;> rfl
theorem qjX {t : TypeId} {x y : Operand} {n b : Nat} {σ : St} (τ : St) {d0 e : D} {ag : Bool} (ho : o.op = .store t x y) (hx : ρ x = some (.ref b 0 [])) (hy : ρ y = some e) (hw : Wk e d) (hσ : σ.Perm (.cell b d0 :: τ)) (ht : Ty P t ag n) (hn : sz d = n) (hn' : sz d0 = n) (hp : d.plain = true) : zC P o ρ σ fun _ σ' => σ' = .cell b d :: τ := by
 have h := qc9 (P := P) (d := d) τ ho hx hy hw hσ (show yX d0 [] = some d0 by cases d0 <;> rfl) (by cases d0 <;> rfl) ht hn hn' hp
 rw [qoB] at h
 exact h
end
theorem qhh {m : Md} {P : Program} {X : Env → D → St → Prop} {f : FuncId} {fn : Func} {K : Ctx} {R : D → St → Prop} {k : List Item} {env : Env} {σ : St} {l : List Oper} {rest : List (Nat × Cls)} (s : Nat) (v : Bool) {b : Bool} (hs : lk env s = some (.bool b)) (hb : b = v) (h : Run P l.toArray X (zk m P f fn K R k) rest ((s, .bool v) :: env) σ) : Run P l.toArray X (zk m P f fn K R k) rest env σ := by
 subst hb
 cases b with
 | true => exact qvq s hs (fun _ => h) fun h' => by cases h'
 | false => exact qvq s hs (fun h' => by cases h') fun _ => h
theorem qvN {m : Md} {P : Program} {f : FuncId} {fn : Func} {K : Ctx} {R : D → St → Prop} {k : List Item} {env : Env} {σ : St} (s : Nat) (v : Bool) {b : Bool} (hs : lk env s = some (.bool b)) (hb : b = v) (h : zk m P f fn K R k ((s, .bool v) :: env) σ) : zk m P f fn K R k env σ := by
 subst hb
 cases b with
 | true => exact qtW s hs (fun _ => h) fun h' => by cases h'
 | false => exact qtW s hs (fun h' => by cases h') fun _ => h
theorem qf1 {m : Md} {P : Program} {f : FuncId} {fn : Func} {K : Ctx} {R : D → St → Prop} {k : List Item} {env : Env} {σ : St} {c : Operand} {x y : Code} (hc : ev env c = some (.bool true)) (h : zk m P f fn K R (.code x :: k) env σ) : zk m P f fn K R (.code (.cond c x y) :: k) env σ := by
 cases c with
 | tmp t => exact qsk hc rfl (fun _ => h) fun h => by cases h
 | const v => exact qsk hc (by cases v <;> first | rfl | (simp [ev, zaL] at hc)) (fun _ => h) fun h => by cases h
 | global g => cases hc
 | func f => cases hc
theorem qhR {m : Md} {P : Program} {f : FuncId} {fn : Func} {K : Ctx} {R : D → St → Prop} {k : List Item} {env : Env} {σ : St} {c : Operand} {x y : Code} (hc : ev env c = some (.bool false)) (h : zk m P f fn K R (.code y :: k) env σ) : zk m P f fn K R (.code (.cond c x y) :: k) env σ := by
 cases c with
 | tmp t => exact qsk hc rfl (fun h => by cases h) fun _ => h
 | const v => exact qsk hc (by cases v <;> first | rfl | (simp [ev, zaL] at hc)) (fun h => by cases h) fun _ => h
 | global g => cases hc
 | func f => cases hc
theorem qBI : Ty Tryz.prog 2 false 1 := ⟨⟨_, Tryz.underlying2, rfl⟩, by kernel_rfl⟩
theorem qfj : Ty Tryz.prog 3 false 1 := ⟨⟨_, Tryz.underlying3, rfl⟩, by kernel_rfl⟩
theorem qEx : ym Tryz.prog 3 (.int .i64 0) := .val (.int .i64 0) rfl ob rfl
theorem qAr : Ty Tryz.prog 4 false 1 := ⟨⟨_, Tryz.underlying4, rfl⟩, by kernel_rfl⟩
theorem qB1 : Ty Tryz.prog 5 false 1 := ⟨⟨_, Tryz.underlying5, rfl⟩, by kernel_rfl⟩
theorem quF : Ty Tryz.prog 9 false 1 := ⟨⟨_, Tryz.underlying9, rfl⟩, by kernel_rfl⟩
theorem qx5 : Ty Tryz.prog 12 false 1 := ⟨⟨_, Tryz.underlying12, rfl⟩, by kernel_rfl⟩
theorem qmW : Ty Tryz.prog 17 false 1 := ⟨⟨_, Tryz.underlying17, rfl⟩, by kernel_rfl⟩
theorem qBC : Ty Tryz.prog 21 false 1 := ⟨⟨_, Tryz.underlying21, rfl⟩, by kernel_rfl⟩
theorem qjP : Ty Tryz.prog 35 false 1 := ⟨⟨_, Tryz.underlying35, rfl⟩, by kernel_rfl⟩
theorem qeo : ElT Tryz.prog 35 50 3 48 := .of Tryz.underlying35 ob od
theorem qjT : Ty Tryz.prog 46 false 1 := ⟨⟨_, Tryz.underlying46, rfl⟩, by kernel_rfl⟩
theorem qbg : ElT Tryz.prog 46 78 4 56 := .of Tryz.underlying46 ob od
theorem qmx : Ty Tryz.prog 48 true 2 := ⟨⟨_, Tryz.underlying48, rfl⟩, by kernel_rfl⟩
theorem qtI : Fld Tryz.prog 48 0 0 := ⟨_, _, 1, Tryz.underlying48, rfl, rfl, by kernel_rfl, by decide⟩
theorem qtz : Fld Tryz.prog 48 1 1 := ⟨_, _, 1, Tryz.underlying48, rfl, rfl, by kernel_rfl, by decide⟩
theorem qhz : zQ Tryz.prog 48 [.str ⟨#[]⟩, .lst []] := .mk rfl ob Tryz.underlying48 ob
theorem qfI : ym Tryz.prog 48 (.agg [.str ⟨#[]⟩, .lst []]) := .agg qhz
theorem qvP : Ty Tryz.prog 50 true 3 := ⟨⟨_, Tryz.underlying50, rfl⟩, by kernel_rfl⟩
theorem qtM : Fld Tryz.prog 50 0 0 := ⟨_, _, 1, Tryz.underlying50, rfl, rfl, by kernel_rfl, by decide⟩
theorem qth : Fld Tryz.prog 50 1 1 := ⟨_, _, 2, Tryz.underlying50, rfl, rfl, by kernel_rfl, by decide⟩
theorem qqJ : zQ Tryz.prog 50 [.int .i64 0, .agg [.str ⟨#[]⟩, .lst []]] := .mk rfl ob Tryz.underlying50 ob
theorem qu9 : Ty Tryz.prog 27 false 1 := ⟨⟨_, Tryz.underlying27, rfl⟩, by kernel_rfl⟩
theorem qvF : Ty Tryz.prog 67 true 2 := ⟨⟨_, Tryz.underlying67, rfl⟩, by kernel_rfl⟩
theorem qtq : Fld Tryz.prog 67 0 0 := ⟨_, _, 1, Tryz.underlying67, rfl, rfl, by kernel_rfl, by decide⟩
theorem qtJ : Fld Tryz.prog 67 1 1 := ⟨_, _, 1, Tryz.underlying67, rfl, rfl, by kernel_rfl, by decide⟩
theorem qkp : zQ Tryz.prog 67 [.str ⟨#[]⟩, .int .i64 0] := .mk rfl ob Tryz.underlying67 ob
theorem qmj : ym Tryz.prog 67 (.agg [.str ⟨#[]⟩, .int .i64 0]) := .agg qkp
theorem qkM : Ty Tryz.prog 60 false 1 := ⟨⟨_, Tryz.underlying60, rfl⟩, by kernel_rfl⟩
theorem qaS : ElT Tryz.prog 60 3 1 8 := .of Tryz.underlying60 ob od
theorem qts : Ty Tryz.prog 36 false 1 := ⟨⟨_, Tryz.underlying36, rfl⟩, by kernel_rfl⟩
theorem qgQ : ElT Tryz.prog 36 165 5 64 := .of Tryz.underlying36 ob od
theorem qph : Ty Tryz.prog 37 false 1 := ⟨⟨_, Tryz.underlying37, rfl⟩, by kernel_rfl⟩
theorem qeP : ElT Tryz.prog 37 165 5 64 := .of Tryz.underlying37 ob od
theorem qdI : Ty Tryz.prog 78 true 4 := ⟨⟨_, Tryz.underlying78, rfl⟩, by kernel_rfl⟩
theorem qcC : Fld Tryz.prog 78 0 0 := ⟨_, _, 1, Tryz.underlying78, rfl, rfl, by kernel_rfl, by decide⟩
theorem qcI : Fld Tryz.prog 78 1 1 := ⟨_, _, 1, Tryz.underlying78, rfl, rfl, by kernel_rfl, by decide⟩
theorem qgn : Fld Tryz.prog 78 2 2 := ⟨_, _, 1, Tryz.underlying78, rfl, rfl, by kernel_rfl, by decide⟩
theorem qcx : Fld Tryz.prog 78 3 3 := ⟨_, _, 1, Tryz.underlying78, rfl, rfl, by kernel_rfl, by decide⟩
theorem qha : zQ Tryz.prog 78 [.int .i64 0, .int .i64 0, .str ⟨#[]⟩, .lst []] := .mk rfl ob Tryz.underlying78 ob
theorem qd8 : ym Tryz.prog 78 (.agg [.int .i64 0, .int .i64 0, .str ⟨#[]⟩, .lst []]) := .agg qha
theorem qjl : Ty Tryz.prog 55 true 3 := ⟨⟨_, Tryz.underlying55, rfl⟩, by kernel_rfl⟩
theorem qsZ : Fld Tryz.prog 55 0 0 := ⟨_, _, 1, Tryz.underlying55, rfl, rfl, by kernel_rfl, by decide⟩
theorem qoc : Fld Tryz.prog 55 1 1 := ⟨_, _, 1, Tryz.underlying55, rfl, rfl, by kernel_rfl, by decide⟩
theorem qoj : Fld Tryz.prog 55 2 2 := ⟨_, _, 1, Tryz.underlying55, rfl, rfl, by kernel_rfl, by decide⟩
theorem qmF : zQ Tryz.prog 55 [.int .i64 0, .str ⟨#[]⟩, .lst []] := .mk rfl ob Tryz.underlying55 ob
theorem qjh : ym Tryz.prog 55 (.agg [.int .i64 0, .str ⟨#[]⟩, .lst []]) := .agg qmF
theorem qtj : Ty Tryz.prog 26 false 1 := ⟨⟨_, Tryz.underlying26, rfl⟩, by kernel_rfl⟩
theorem qgW : ElT Tryz.prog 26 55 3 48 := .of Tryz.underlying26 ob od
theorem qkd : Ty Tryz.prog 165 true 5 := ⟨⟨_, Tryz.underlying165, rfl⟩, by kernel_rfl⟩
theorem qsV : Fld Tryz.prog 165 0 0 := ⟨_, _, 1, Tryz.underlying165, rfl, rfl, by kernel_rfl, by decide⟩
theorem qtp : Fld Tryz.prog 165 1 1 := ⟨_, _, 4, Tryz.underlying165, rfl, rfl, by kernel_rfl, by decide⟩
theorem ql7 : zQ Tryz.prog 165 [.int .i64 0, .agg [.int .i64 0, .int .i64 0, .str ⟨#[]⟩, .lst []]] := .mk rfl ob Tryz.underlying165 ob
theorem qpW : ym Tryz.prog 165 (.agg [.int .i64 0, .agg [.int .i64 0, .int .i64 0, .str ⟨#[]⟩, .lst []]]) := .agg ql7
theorem qpm : Ty Tryz.prog 156 false 1 := ⟨⟨_, Tryz.underlying156, rfl⟩, by kernel_rfl⟩
theorem qrg : Ty Tryz.prog 158 true 1 := ⟨⟨_, Tryz.underlying158, rfl⟩, by kernel_rfl⟩
theorem qpA : Fld Tryz.prog 158 0 0 := ⟨_, _, 1, Tryz.underlying158, rfl, rfl, by kernel_rfl, by decide⟩
theorem qtX : Ty Tryz.prog 219 false 1 := ⟨⟨_, Tryz.underlying219, rfl⟩, by kernel_rfl⟩
theorem qqU : Ty Tryz.prog 187 false 1 := ⟨⟨_, Tryz.underlying187, rfl⟩, by kernel_rfl⟩
theorem qDO : Ty Tryz.prog 263 false 1 := ⟨⟨_, Tryz.underlying263, rfl⟩, by kernel_rfl⟩
theorem qAg : Ty Tryz.prog 264 false 1 := ⟨⟨_, Tryz.underlying264, rfl⟩, by kernel_rfl⟩
theorem qxQ : Ty Tryz.prog 276 false 1 := ⟨⟨_, Tryz.underlying276, rfl⟩, by kernel_rfl⟩
theorem qtd : Ty Tryz.prog 22 false 1 := ⟨⟨_, Tryz.underlying22, rfl⟩, by kernel_rfl⟩
theorem qiH : ElT Tryz.prog 22 67 2 24 := .of Tryz.underlying22 ob od
theorem qtY : Ty Tryz.prog 23 false 1 := ⟨⟨_, Tryz.underlying23, rfl⟩, by kernel_rfl⟩
theorem qmm : ElT Tryz.prog 23 64 6 120 := .of Tryz.underlying23 ob od
theorem qri : Ty Tryz.prog 25 true 2 := ⟨⟨_, Tryz.underlying25, rfl⟩, by kernel_rfl⟩
theorem qpo : Fld Tryz.prog 25 0 0 := ⟨_, _, 1, Tryz.underlying25, rfl, rfl, by kernel_rfl, by decide⟩
theorem qpx : Fld Tryz.prog 25 1 1 := ⟨_, _, 1, Tryz.underlying25, rfl, rfl, by kernel_rfl, by decide⟩
theorem qnG : zQ Tryz.prog 25 [.lst [], .lst []] := .mk rfl ob Tryz.underlying25 ob
theorem qs1 : Ty Tryz.prog 53 false 1 := ⟨⟨_, Tryz.underlying53, rfl⟩, by kernel_rfl⟩
theorem qeG : ElT Tryz.prog 53 48 2 40 := .of Tryz.underlying53 ob od
theorem qp1 : Ty Tryz.prog 64 true 6 := ⟨⟨_, Tryz.underlying64, rfl⟩, by kernel_rfl⟩
theorem qtr : Fld Tryz.prog 64 0 0 := ⟨_, _, 1, Tryz.underlying64, rfl, rfl, by kernel_rfl, by decide⟩
theorem qs5 : Fld Tryz.prog 64 1 1 := ⟨_, _, 1, Tryz.underlying64, rfl, rfl, by kernel_rfl, by decide⟩
theorem qs8 : Fld Tryz.prog 64 2 2 := ⟨_, _, 1, Tryz.underlying64, rfl, rfl, by kernel_rfl, by decide⟩
theorem qtx : Fld Tryz.prog 64 3 3 := ⟨_, _, 1, Tryz.underlying64, rfl, rfl, by kernel_rfl, by decide⟩
theorem qsS : Fld Tryz.prog 64 4 4 := ⟨_, _, 1, Tryz.underlying64, rfl, rfl, by kernel_rfl, by decide⟩
theorem qtO : Fld Tryz.prog 64 5 5 := ⟨_, _, 1, Tryz.underlying64, rfl, rfl, by kernel_rfl, by decide⟩
theorem qpZ : zQ Tryz.prog 64 [.str ⟨#[]⟩, .lst [], .lst [], .lst [], .lst [], .int .i64 0] := .mk rfl ob Tryz.underlying64 ob
theorem qhr : ym Tryz.prog 64 (.agg [.str ⟨#[]⟩, .lst [], .lst [], .lst [], .lst [], .int .i64 0]) := .agg qpZ
theorem quj : Ty Tryz.prog 128 false 1 := ⟨⟨_, Tryz.underlying128, rfl⟩, by kernel_rfl⟩
theorem qjr : ElT Tryz.prog 128 94 3 24 := .of Tryz.underlying128 ob od
theorem qxV : Ty Tryz.prog 94 true 3 := ⟨⟨_, Tryz.underlying94, rfl⟩, by kernel_rfl⟩
theorem qva : Fld Tryz.prog 94 0 0 := ⟨_, _, 1, Tryz.underlying94, rfl, rfl, by kernel_rfl, by decide⟩
theorem quu : Fld Tryz.prog 94 1 1 := ⟨_, _, 1, Tryz.underlying94, rfl, rfl, by kernel_rfl, by decide⟩
theorem quP : Fld Tryz.prog 94 2 2 := ⟨_, _, 1, Tryz.underlying94, rfl, rfl, by kernel_rfl, by decide⟩
theorem qxZ : zQ Tryz.prog 94 [.int .i64 0, .int .i64 0, .bool false] := .mk rfl ob Tryz.underlying94 ob
theorem qtL : Ty Tryz.prog 56 false 1 := ⟨⟨_, Tryz.underlying56, rfl⟩, by kernel_rfl⟩
theorem qiO : ElT Tryz.prog 56 103 3 48 := .of Tryz.underlying56 ob od
theorem qnX : Ty Tryz.prog 124 false 1 := ⟨⟨_, Tryz.underlying124, rfl⟩, by kernel_rfl⟩
theorem qmR : Ty Tryz.prog 91 false 1 := ⟨⟨_, Tryz.underlying91, rfl⟩, by kernel_rfl⟩
theorem qm4 : ElT Tryz.prog 91 96 9 144 := .of Tryz.underlying91 ob od
theorem qnD : Ty Tryz.prog 96 true 9 := ⟨⟨_, Tryz.underlying96, rfl⟩, by kernel_rfl⟩
theorem qm0 : Fld Tryz.prog 96 0 0 := ⟨_, _, 3, Tryz.underlying96, rfl, rfl, by kernel_rfl, by decide⟩
theorem qmM : Fld Tryz.prog 96 1 3 := ⟨_, _, 6, Tryz.underlying96, rfl, rfl, by kernel_rfl, by decide⟩
theorem qka : Ty Tryz.prog 103 true 3 := ⟨⟨_, Tryz.underlying103, rfl⟩, by kernel_rfl⟩
theorem qta : Fld Tryz.prog 103 0 0 := ⟨_, _, 1, Tryz.underlying103, rfl, rfl, by kernel_rfl, by decide⟩
theorem qt2 : Fld Tryz.prog 103 1 1 := ⟨_, _, 1, Tryz.underlying103, rfl, rfl, by kernel_rfl, by decide⟩
theorem qjV : Fld Tryz.prog 103 2 2 := ⟨_, _, 1, Tryz.underlying103, rfl, rfl, by kernel_rfl, by decide⟩
theorem qjg : zQ Tryz.prog 103 [.str ⟨#[]⟩, .int .i64 0, .lst []] := .mk rfl ob Tryz.underlying103 ob
theorem qg9 : ym Tryz.prog 103 (.agg [.str ⟨#[]⟩, .int .i64 0, .lst []]) := .agg qjg
theorem qrG : Ty Tryz.prog 190 false 1 := ⟨⟨_, Tryz.underlying190, rfl⟩, by kernel_rfl⟩
theorem qur : Ty Tryz.prog 192 true 2 := ⟨⟨_, Tryz.underlying192, rfl⟩, by kernel_rfl⟩
theorem qhe : Fld Tryz.prog 192 0 0 := ⟨_, _, 1, Tryz.underlying192, rfl, rfl, by kernel_rfl, by decide⟩
theorem qlf : Fld Tryz.prog 192 1 1 := ⟨_, _, 1, Tryz.underlying192, rfl, rfl, by kernel_rfl, by decide⟩
theorem qr8 : Ty Tryz.prog 216 false 1 := ⟨⟨_, Tryz.underlying216, rfl⟩, by kernel_rfl⟩
theorem qm3 : callee Tryz.prog 78 := ⟨_, _, Tryz.func78, rfl, by decide⟩
theorem qgM : callee Tryz.prog 102 := ⟨_, _, Tryz.func102, rfl, by decide⟩
theorem qk4 : callee Tryz.prog 148 := ⟨_, _, Tryz.func148, rfl, by decide⟩
theorem qgS : callee Tryz.prog 109 := ⟨_, _, Tryz.func109, rfl, by decide⟩
theorem qlt : callee Tryz.prog 114 := ⟨_, _, Tryz.func114, rfl, by decide⟩
theorem qie : callee Tryz.prog 103 := ⟨_, _, Tryz.func103, rfl, by decide⟩
theorem qgV : callee Tryz.prog 106 := ⟨_, _, Tryz.func106, rfl, by decide⟩
theorem qfq : callee Tryz.prog 136 := ⟨_, _, Tryz.func136, rfl, by decide⟩
theorem qfN : callee Tryz.prog 184 := ⟨_, _, Tryz.func184, rfl, by decide⟩
theorem qik : callee Tryz.prog 165 := ⟨_, _, Tryz.func165, rfl, by decide⟩
theorem qjY : callee Tryz.prog 142 := ⟨_, _, Tryz.func142, rfl, by decide⟩
theorem qj9 : callee Tryz.prog 168 := ⟨_, _, Tryz.func168, rfl, by decide⟩
theorem qfQ : callee Tryz.prog 113 := ⟨_, _, Tryz.func113, rfl, by decide⟩
theorem qoO : callee Tryz.prog 100 := ⟨_, _, Tryz.func100, rfl, by decide⟩
theorem qdK : callee Tryz.prog 47 := ⟨_, _, Tryz.func47, rfl, by decide⟩
theorem qd4 : callee Tryz.prog 95 := ⟨_, _, Tryz.func95, rfl, by decide⟩
theorem qlG : callee Tryz.prog 133 := ⟨_, _, Tryz.func133, rfl, by decide⟩
theorem qmV : callee Tryz.prog 27 := ⟨_, _, Tryz.func27, rfl, by decide⟩
theorem qf7 : callee Tryz.prog 26 := ⟨_, _, Tryz.func26, rfl, by decide⟩
theorem qm2 : callee Tryz.prog 28 := ⟨_, _, Tryz.func28, rfl, by decide⟩
theorem qg2 : callee Tryz.prog 96 := ⟨_, _, Tryz.func96, rfl, by decide⟩
theorem qfH : callee Tryz.prog 141 := ⟨_, _, Tryz.func141, rfl, by decide⟩
theorem qic : callee Tryz.prog 17 := ⟨_, _, Tryz.func17, rfl, by decide⟩
theorem qiU : callee Tryz.prog 58 := ⟨_, _, Tryz.func58, rfl, by decide⟩
theorem qmO : callee Tryz.prog 128 := ⟨_, _, Tryz.func128, rfl, by decide⟩
theorem qmq : callee Tryz.prog 94 := ⟨_, _, Tryz.func94, rfl, by decide⟩
theorem qkx : callee Tryz.prog 154 := ⟨_, _, Tryz.func154, rfl, by decide⟩
theorem qfA : callee Tryz.prog 108 := ⟨_, _, Tryz.func108, rfl, by decide⟩
theorem qi1 : callee Tryz.prog 70 := ⟨_, _, Tryz.func70, rfl, by decide⟩
theorem qnh : callee Tryz.prog 110 := ⟨_, _, Tryz.func110, rfl, by decide⟩
theorem qlr : callee Tryz.prog 16 := ⟨_, _, Tryz.func16, rfl, by decide⟩
theorem qoF : callee Tryz.prog 89 := ⟨_, _, Tryz.func89, rfl, by decide⟩
theorem qtA : callee Tryz.prog 45 := ⟨_, _, Tryz.func45, rfl, by decide⟩
theorem qiq : callee Tryz.prog 5 := ⟨_, _, Tryz.func5, rfl, by decide⟩
theorem qjS : callee Tryz.prog 19 := ⟨_, _, Tryz.func19, rfl, by decide⟩
theorem qjF : callee Tryz.prog 8 := ⟨_, _, Tryz.func8, rfl, by decide⟩
theorem qeY : callee Tryz.prog 18 := ⟨_, _, Tryz.func18, rfl, by decide⟩
theorem qko : callee Tryz.prog 42 := ⟨_, _, Tryz.func42, rfl, by decide⟩
theorem qlJ : callee Tryz.prog 13 := ⟨_, _, Tryz.func13, rfl, by decide⟩
theorem qb7 : callee Tryz.prog 14 := ⟨_, _, Tryz.func14, rfl, by decide⟩
theorem qjk : callee Tryz.prog 15 := ⟨_, _, Tryz.func15, rfl, by decide⟩
theorem qiT : callee Tryz.prog 41 := ⟨_, _, Tryz.func41, rfl, by decide⟩
theorem qjc : callee Tryz.prog 40 := ⟨_, _, Tryz.func40, rfl, by decide⟩
theorem qkS : callee Tryz.prog 43 := ⟨_, _, Tryz.func43, rfl, by decide⟩
theorem qdB : callee Tryz.prog 38 := ⟨_, _, Tryz.func38, rfl, by decide⟩
theorem qfp : callee Tryz.prog 62 := ⟨_, _, Tryz.func62, rfl, by decide⟩
theorem qrn : callee Tryz.prog 63 := ⟨_, _, Tryz.func63, rfl, by decide⟩
theorem qjC : callee Tryz.prog 64 := ⟨_, _, Tryz.func64, rfl, by decide⟩
theorem qcz : callee Tryz.prog 22 := ⟨_, _, Tryz.func22, rfl, by decide⟩
theorem qo6 : callee Tryz.prog 88 := ⟨_, _, Tryz.func88, rfl, by decide⟩
theorem qn4 : callee Tryz.prog 121 := ⟨_, _, Tryz.func121, rfl, by decide⟩
theorem qiC : callee Tryz.prog 48 := ⟨_, _, Tryz.func48, rfl, by decide⟩
theorem qf0 : callee Tryz.prog 49 := ⟨_, _, Tryz.func49, rfl, by decide⟩
theorem qlY : callee Tryz.prog 90 := ⟨_, _, Tryz.func90, rfl, by decide⟩
theorem qkC : callee Tryz.prog 50 := ⟨_, _, Tryz.func50, rfl, by decide⟩
theorem qtw : callee Tryz.prog 87 := ⟨_, _, Tryz.func87, rfl, by decide⟩
theorem qlm : callee Tryz.prog 46 := ⟨_, _, Tryz.func46, rfl, by decide⟩
theorem qoZ : callee Tryz.prog 124 := ⟨_, _, Tryz.func124, rfl, by decide⟩
theorem qje : callee Tryz.prog 125 := ⟨_, _, Tryz.func125, rfl, by decide⟩
theorem qfG : callee Tryz.prog 54 := ⟨_, _, Tryz.func54, rfl, by decide⟩
theorem qgz : callee Tryz.prog 55 := ⟨_, _, Tryz.func55, rfl, by decide⟩
theorem qmt : callee Tryz.prog 56 := ⟨_, _, Tryz.func56, rfl, by decide⟩
theorem qhP : callee Tryz.prog 57 := ⟨_, _, Tryz.func57, rfl, by decide⟩
theorem qip : callee Tryz.prog 23 := ⟨_, _, Tryz.func23, rfl, by decide⟩
theorem qgU : callee Tryz.prog 24 := ⟨_, _, Tryz.func24, rfl, by decide⟩
theorem qfX : callee Tryz.prog 25 := ⟨_, _, Tryz.func25, rfl, by decide⟩
theorem qku : callee Tryz.prog 92 := ⟨_, _, Tryz.func92, rfl, by decide⟩
theorem qnp : callee Tryz.prog 93 := ⟨_, _, Tryz.func93, rfl, by decide⟩
theorem qkn : callee Tryz.prog 6 := ⟨_, _, Tryz.func6, rfl, by decide⟩
theorem qiy : callee Tryz.prog 39 := ⟨_, _, Tryz.func39, rfl, by decide⟩
theorem qot : callee Tryz.prog 44 := ⟨_, _, Tryz.func44, rfl, by decide⟩
theorem qgN : callee Tryz.prog 83 := ⟨_, _, Tryz.func83, rfl, by decide⟩
theorem qn0 : callee Tryz.prog 84 := ⟨_, _, Tryz.func84, rfl, by decide⟩
theorem qmH : callee Tryz.prog 85 := ⟨_, _, Tryz.func85, rfl, by decide⟩
theorem qgw : callee Tryz.prog 86 := ⟨_, _, Tryz.func86, rfl, by decide⟩
theorem qrA : callee Tryz.prog 97 := ⟨_, _, Tryz.func97, rfl, by decide⟩
theorem qhU : callee Tryz.prog 122 := ⟨_, _, Tryz.func122, rfl, by decide⟩
theorem qrv : callee Tryz.prog 123 := ⟨_, _, Tryz.func123, rfl, by decide⟩
theorem qnm : callee Tryz.prog 152 := ⟨_, _, Tryz.func152, rfl, by decide⟩
theorem qkR : callee Tryz.prog 153 := ⟨_, _, Tryz.func153, rfl, by decide⟩
theorem qhO : callee Tryz.prog 61 := ⟨_, _, Tryz.func61, rfl, by decide⟩
theorem qif : callee Tryz.prog 20 := ⟨_, _, Tryz.func20, rfl, by decide⟩
theorem qgD : callee Tryz.prog 7 := ⟨_, _, Tryz.func7, rfl, by decide⟩
theorem qhx : callee Tryz.prog 120 := ⟨_, _, Tryz.func120, rfl, by decide⟩
theorem qiJ : callee Tryz.prog 21 := ⟨_, _, Tryz.func21, rfl, by decide⟩
mutual
def fsT : T → List D
 | .mk k i s ar => [.int .i64 k, .int .i64 i, .str s, .lst (zaM ar)]
def zaM : List T → List D
 | [] => []
 | t :: ts => .agg (fsT t) :: zaM ts
end
abbrev zl (t : T) : D := .agg (fsT t)
theorem qpP : ∀ (ts : List T), zaM ts = ts.map zl
 | [] => rfl
 | t :: ts => by rw [zaM, qpP ts]; rfl
theorem qfk (t : T) : fsT t = [.int .i64 t.k, .int .i64 t.i, .str t.s, .lst (t.ar.map zl)] := by
 cases t; simp only [fsT, qpP, T.k, T.i, T.s, T.ar]
theorem qgp (t : T) : (fsT t)[0]? = some (.int .i64 t.k) := by rw [qfk]; rfl
theorem qgv (t : T) : (fsT t)[1]? = some (.int .i64 t.i) := by rw [qfk]; rfl
theorem qmo (t : T) : (fsT t)[2]? = some (.str t.s) := by rw [qfk]; rfl
theorem qhm (t : T) : (fsT t)[3]? = some (.lst (t.ar.map zl)) := by rw [qfk]; rfl
theorem qgk (t : T) : szs ((fsT t).take 0) = 0 := by rw [qfk]; rfl
theorem qgu (t : T) : szs ((fsT t).take 1) = 1 := by rw [qfk]; rfl
theorem qmn (t : T) : szs ((fsT t).take 2) = 2 := by rw [qfk]; rfl
theorem qhl (t : T) : szs ((fsT t).take 3) = 3 := by rw [qfk]; rfl
theorem qc2 (t : T) : sz (zl t) = 4 := by rw [zl, qfk]; rfl
theorem qed (t : T) : szs (fsT t) = 4 := by rw [qfk]; rfl
def zY (a : At) : D := .agg [.str a.n, .lst (a.ts.map zl)]
def zE (g : Gl) : D := .agg [.int .i64 g.op, .str g.n, .lst (g.ts.map zl)]
def zr (x : Int × T) : D := .agg [.int .i64 x.1, zl x.2]
theorem qgs (x : Int × T) : sz (zr x) = 5 := by
 show 1 + (sz (zl x.2) + 0) = 5
 rw [qc2]
/-! ### to the elder layouts -/
section
variable {p : Addr → Prop} {w : World}
mutual
theorem qDT : ∀ (t : T) (v : Value), Rep p w (zl t) v → ∃ cs, v = .agg cs.toArray ∧ CT w t cs
 | .mk k i s ar, v, h => by
  simp only [Rep, fsT] at h
  obtain ⟨cs, rfl, h, _⟩ := h
  simp only [zz, Rep] at h
  obtain ⟨v1, _, rfl, ⟨rfl, hk⟩, v2, _, rfl, ⟨rfl, hi⟩, v3, _, rfl, ⟨rfl, hs⟩, v4, _, rfl, ⟨A, c, xs, rfl, hl, hc, hr, hrs, _⟩, rfl⟩ := h
  rw [show (zaM ar).length = ar.length by rw [qpP]; simp] at hl ⊢
  refine ⟨_, rfl, ?_⟩
  simp only [CT]
  have hk' := qnA hk
  have hi' := qnA hi
  exact ⟨A, c, xs, by simp [Value.cells], ⟨by unfold I64; omega, by unfold I64; omega, hs, hl, hc⟩, hr.rd, qDa ar xs hrs⟩
theorem qDa : ∀ (ts : List T) (xs : List Value), zz p w (zaM ts) xs → CL w ts xs
 | [], xs, h => by simpa only [zaM, zz, CL] using h
 | t :: ts, xs, h => by
  simp only [zaM, zz] at h
  obtain ⟨v, rest, rfl, h1, h2⟩ := h
  obtain ⟨cs, rfl, h3⟩ := qDT t v h1
  simpa [Value.cells] using CL.cons h3 (qDa ts rest h2)
end
theorem qA2 {t : T} {v : Value} (h : Rep p w (zl t) v) : VT w t v := qDT t v h
theorem qEz {ts : List T} {v : Value} (h : Rep p w (.lst (ts.map zl)) v) : SlT w ts v := by
 simp only [Rep] at h
 obtain ⟨A, c, xs, rfl, h2, h3, h4, h5, _⟩ := h
 simp only [jb] at h2 ⊢
 exact ⟨A, c, xs, rfl, h2, h3, h4.rd, qDa ts xs (by rw [qpP]; exact h5)⟩
theorem qBz {a : At} {v : Value} (h : Rep p w (zY a) v) : VA w a v := by
 simp only [zY, Rep, zz] at h
 obtain ⟨cs, rfl, ⟨v1, _, rfl, ⟨rfl, hs⟩, v2, _, rfl, h2, rfl⟩, _⟩ := h
 have h3 := qEz (ts := a.ts) (by simpa only [Rep] using h2)
 obtain ⟨A, c, xs, rfl, _⟩ := h2
 exact ⟨_, rfl, _, by simp [Value.cells], h3, hs⟩
theorem qDz {g : Gl} {v : Value} (h : Rep p w (zE g) v) : VG w g v := by
 simp only [zE, Rep, zz] at h
 obtain ⟨cs, rfl, ⟨v0, _, rfl, ⟨rfl, ho⟩, v1, _, rfl, ⟨rfl, hs⟩, v2, _, rfl, h2, rfl⟩, _⟩ := h
 have h3 := qEz (ts := g.ts) (by simpa only [Rep] using h2)
 obtain ⟨A, c, xs, rfl, _⟩ := h2
 have ho' := qnA ho
 exact ⟨_, rfl, _, by simp [Value.cells], h3, by unfold I64; omega, hs⟩
end
section
variable {p : Addr → Prop} {w : World}
theorem zce {d : D} {vs : List Value} (h : zH p w [d] vs) : ∃ v, vs = [v] ∧ Rep p w d v := by
 simp only [zH] at h
 obtain ⟨v, _, rfl, h1, rfl⟩ := h
 exact ⟨v, rfl, h1⟩
theorem repl2 {d e : D} {vs : List Value} (h : zH p w [d, e] vs) : ∃ v u, vs = [v, u] ∧ Rep p w d v ∧ Rep p w e u := by
 simp only [zH] at h
 obtain ⟨v, _, rfl, h1, u, _, rfl, h2, rfl⟩ := h
 exact ⟨v, u, rfl, h1, h2⟩
end
theorem zaI {P : Program} {f : FuncId} {d : D} {b : Bool} (h : ∀ (p : Addr → Prop) (w : World) (v : Value), Rep p w d v → Calls P f #[v] w (Ret w (Is (.bool b)))) : zf P f [d] (.bool b) :=
 qna (v := .bool b) (fun p w => by simp only [Rep]) fun p w vs _ hv => by
  obtain ⟨v, rfl, h1⟩ := zce hv
  exact h p w v h1
theorem zbV {P : Program} {f : FuncId} {d e : D} {b : Bool} (h : ∀ (p : Addr → Prop) (w : World) (v u : Value), Rep p w d v → Rep p w e u → Calls P f #[v, u] w (Ret w (Is (.bool b)))) : zf P f [d, e] (.bool b) :=
 qna (v := .bool b) (fun p w => by simp only [Rep]) fun p w vs _ hv => by
  obtain ⟨v, u, rfl, h1, h2⟩ := repl2 hv
  exact h p w v u h1 h2
theorem zb6 {P : Program} {f : FuncId} {d : D} {n : Int} (hn : IntKind.i64.wrap n = n) (h : ∀ (p : Addr → Prop) (w : World) (v : Value), Rep p w d v → Calls P f #[v] w (Ret w (Is (.int .i64 n)))) : zf P f [d] (.int .i64 n) :=
 qna (v := .int .i64 n) (fun p w => by simp only [Rep]; exact ⟨trivial, hn⟩) fun p w vs _ hv => by
  obtain ⟨v, rfl, h1⟩ := zce hv
  exact h p w v h1
theorem qv9 (n : Nat) (hM : n ≤ 1000000000) (t : T) (hn : wt t ≤ n) : zf Tryz.prog 95 [zl t] (.bool (zN t)) := zaI fun _ w v h => qo7 n hM t v w hn (qA2 h)
theorem qx7 (n : Nat) (hM : n ≤ 1000000000) (t u : T) (hn : wt t ≤ n) : zf Tryz.prog 184 [zl t, zl u] (.bool (yV t u)) := zbV fun _ w v x h k => qvx n hM t u v x w hn (qA2 h) (qA2 k)
theorem qoJ (n : Nat) (hM : n ≤ 1000000000) (a : At) (hn : wtL a.ts ≤ n) : zf Tryz.prog 100 [zY a] (.bool (zA a)) := zaI fun _ w v h => qt5 n hM a v w hn (qBz h)
theorem qq2 (n : Nat) (hM : n ≤ 1000000000) (a : At) (hn : wtL a.ts ≤ n) : zf Tryz.prog 47 [zY a] (.bool (zA a)) := zaI fun _ w v h => qmK n hM a v w hn (qBz h)
theorem qqC (n : Nat) (hM : n ≤ 1000000000) (a : Gl) (hn : wtL a.ts ≤ n) : zf Tryz.prog 22 [zE a] (.bool (zy a)) := zaI fun _ w v h => qpz n hM a v w hn (qDz h)
theorem qrH (n : Nat) (hM : n ≤ 1000000000) (a b : Gl) (hn : wtL a.ts ≤ n) : zf Tryz.prog 168 [zE a, zE b] (.bool (zad a b)) := zbV fun _ w v x h k => qqt n hM a b v x w hn (qDz h) (qDz k)
theorem qv3 (s : ByteArray) (hs : s.size ≤ 9223372036854775807) : zf Tryz.prog 17 [.str s] (.bool (zO s)) := zaI fun _ w v h => by
 simp only [Rep] at h
 rw [h.1]
 have := qnO s (Lib.hid hs) w
 refine this.mono ?_
 rintro e w' ⟨rfl, rfl⟩
 exact Ret.mk rfl (Ext.rfl' _)
abbrev encI (l : List Int) : D := .lst (l.map (D.int .i64))
def RowI (base : Nat) (l : List Int) (v : Value) (w : World) : Prop := zaD base 3 1 l.length (l.map (Value.int .i64)) v w
theorem qxf {w : World} {base base' : Nat} {e : TypeId} {size n : Nat} {v : Value} {xs : List Value} (h : w.ownsRow base e size v n xs) (hb : base' ≤ base) : w.ownsRow base' e size v n xs := by
 refine ⟨h.1, ?_⟩
 rcases h.2 with h3 | ⟨g, cap, cur, hv, hg, h4⟩
 exact .inl h3
 exact .inr ⟨g, cap, cur, hv, by omega, h4⟩
theorem qxW (d : Nat) (hd : d ≤ 1000000000) (ts : List T) (sv : Value) (w : World) (g : Nat) (hg : w.heap.size = g) (hn : wtL ts ≤ d) (hs : SlT w ts sv) :
 Calls Tryz.prog 98 #[.func (.func 129) #[] #[.pointer (some ⟨g, 0, none⟩)]] (w.alloc (.cells #[sv] 46)) (Ret w (RowI w.heap.size (yj [] (zu ts)))) := by
 subst hg
 exact (qBe d hd ts sv w.heap.size _ hn (Boxed.new w _ _).cell (hs.ext ((Ext.rfl' w).al _))).mono fun _ _ ⟨v, h1, ⟨A, c, h2, h4⟩, h3⟩ => ⟨v, h1, ⟨A, c, h2, qxf h4 og⟩, ((Ext.rfl' w).al _).tr h3⟩
theorem quI (d : Nat) (hd : d ≤ 1000000000) (a : At) (v : Value) (w : World) (hn : wtL a.ts ≤ d) (hv : VA w a v) : Calls Tryz.prog 64 #[v] w (Ret w (RowI w.heap.size (yj [] (zu a.ts)))) := by
 obtain ⟨sl, rfl, hs, -⟩ := hv.open_
 have hs' := zS hs
 obtain ⟨A, c, xs, rfl, -⟩ := hs
 clear hv
 go_enter Tryz.func64, Tryz.ntmps64
 go_wp2_with fail
 refine (qBp _ _ A a.ts.length c rfl).mono ?_
 rintro e w1 ⟨rfl, rfl⟩
 go_wp2_with fail
 refine (qxW d hd a.ts _ _ _ og hn (SlT.ext (zg hs') ((Ext.rfl' w).al _))).mono ?_
 rintro e w2 ⟨v, rfl, hr, he⟩
 have he := zS he
 obtain ⟨A2, c2, rfl, hr⟩ := hr
 have hr := zS (qxf hr (show w.heap.size ≤ _ by simp))
 go_wp2
 go_ret
 exact Ret.mk ⟨A2, c2, rfl, zg hr⟩ (((Ext.rfl' w).al _).tr (zg he))
theorem quL {P : Program} {f : FuncId} {ds : List D} {l : List Int} (h : ∀ (p : Addr → Prop) (w : World) (vs : List Value), zH p w ds vs → (∀ x ∈ l, I64 x) ∧ Calls P f vs.toArray w (Ret w (RowI w.heap.size l))) : zf P f ds (encI l) := fun w p vs hi hv => by
 obtain ⟨hI, hc⟩ := h p w vs hv
 refine hc.mono fun e w' hr => ?_
 obtain ⟨v, rfl, ⟨A, c, rfl, ho⟩, he⟩ := hr
 have hcell : ∀ a, p a → w'.cell? a = w.cell? a := fun a ha => by
  obtain ⟨u, hu⟩ := hi.pub a ha
  exact (he.cellOf hu).trans hu.symm
 have hreps : ∀ (q : Addr → Prop) (m : List Int), (∀ x ∈ m, I64 x) → zz q w' (m.map (D.int .i64)) (m.map (Value.int .i64)) := fun q m => by
  induction m with
  | nil => exact fun _ => zz.nil _ _
  | cons x m ih =>
   intro hx
   have := hx x (jd ..)
   have h1 : Rep q w' (.int .i64 x) (.int .i64 x) := by
    simp only [Rep]
    exact ⟨trivial, wrap64 (by unfold I64 at this; omega)⟩
   simpa [Value.cells] using zz.cons h1 (ih fun y hy => hx y (jf _ hy))
 have hones : ∀ u ∈ l.map (Value.int .i64), u.oneCell' = true := fun u hu => by
  obtain ⟨x, _, rfl⟩ := jx.1 hu
  rfl
 -- what is given out: the row
 refine .inl ⟨_, encI l, [], fun a => p a ∨ (w.heap.size ≤ a.block ∧ a.spot = none ∧ ∃ u, w'.cell? a = some u), rfl, rfl, ?_, ?_⟩
 simp only [Rep, jb]
 have hlen := ho.1
 rcases ho.2 with ⟨h1, h2⟩ | ⟨g, cap, cur, h1, h2, h3, h4, h5, h6, h7⟩
 injection h1 with h1 h8 h9
 subst h1 h9
 have : l = [] := jA h8
 subst this
 exact ⟨none, 0, [], rfl, by simp, by omega, .inl rfl, zz.nil _ _, by simp⟩
 injection h1 with h1 h8 h9
 subst h1 h9
 refine ⟨_, c, l.map (Value.int .i64), rfl, h4, by unfold maxLen at h5; omega, .inr ⟨g, 0, rfl, fun j u hu => ?_⟩, hreps _ l hI, hones⟩
 have hu' : w'.cell? ⟨g, 0 + j, none⟩ = some u := by
  rw [ju, cell_of_row _ _ _ _ _ _ h3]
  rw [← h7, j8] at hu
  split at hu
  simpa using hu
  cases hu
 exact ⟨.inr ⟨h2, rfl, u, hu'⟩, hu'⟩
 exact { ok := fun o ho => (by cases ho), nd := List.nodup_nil, mine := fun b hb => (by cases hb), pub := fun a ha => (by
  rcases ha with ha | ⟨_, _, u, hu⟩
  obtain ⟨u, hu⟩ := hi.pub a ha
  exact ⟨u, he.cellOf hu⟩
  exact ⟨u, hu⟩), gr := fun a ha => ⟨.inl ha, hcell a ha⟩, neu := fun a ha => ha.elim .inl fun h => .inr (.inl h.1), os := he.os, tape := he.tape, output := he.output, size := he.size, block := fun b hb _ => he.block b hb }
theorem qzN {w : World} {l : List T} {v : Value} (h : SlT w l v) : ∀ x ∈ yj [] (zu l), I64 x := fun x hx => by
 obtain ⟨A, c, xs, _, _, _, _, h5⟩ := h
 exact qtH l xs h5 x (by simpa using qjM.1 hx)
theorem qpq (n : Nat) (hM : n ≤ 1000000000) (a : At) (hn : wtL a.ts ≤ n) : zf Tryz.prog 64 [zY a] (encI (yj [] (zu a.ts))) := quL fun p w vs h => by
 obtain ⟨v, rfl, h'⟩ := zce h
 obtain ⟨sl, _, hs, _⟩ := (qBz h').open_
 exact ⟨qzN hs, quI n hM a v w hn (qBz h')⟩
end Go.Proofs.YtamoolpdganckaaGreat
namespace Go.Proofs.YtamoolpdganckaaGreat
set_option maxRecDepth 100000
open Go.ChangeShapes Go.WideShapes Go.ChangeAt Go.RowKit
def live (w : World) (a : Addr) : Prop := ∃ v, w.cell? a = some v
theorem qAD {w w' : World} (e : Ext w w') : zT (live w) w (live w') w' := fun _ ⟨v, hv⟩ => ⟨⟨v, e.cellOf hv⟩, by rw [hv]; exact e.cellOf hv⟩
def Op (t : TypeId) (n : Nat) (S : D → Prop) : Prop := ∀ (H : Type) (enc : TypeId × Value → H) (W : World) (base : Nat) (sp : Nat → Bool) (hd : Bool) (fuel : Nat) (cs : List Value) (x : DataW H × List MemPlace),
 DataW.trod enc Tryz.prog W base sp hd fuel t cs = some x → ∃ d v, S d ∧ d.plain = true ∧ sz d = n ∧ Rep (live W) W d v ∧ cs = v.cells.toList
theorem Op.to {t : TypeId} {n : Nat} {S S' : D → Prop} (h : Op t n S) (k : ∀ d, S d → S' d) : Op t n S' := fun H enc W base sp hd fuel cs x hx => by
 obtain ⟨d, v, h1, h2⟩ := h H enc W base sp hd fuel cs x hx
 exact ⟨d, v, k d h1, h2⟩
theorem qD6 {t : TypeId} (ht : (Tryz.prog).underlying t = some (.int .i64)) : Op t 1 fun d => ∃ n, d = .int .i64 n := fun H enc W base sp hd fuel cs x hx => by
 obtain ⟨k, rfl, _, w0⟩ := DataW.trod_int ht hx
 have := qEH w0
 refine ⟨.int .i64 k, .int .i64 k, ⟨k, rfl⟩, rfl, rfl, ?_, by simp [Value.cells]⟩
 simp only [Rep]
 exact ⟨trivial, wrap64 (by unfold I64 at this; omega)⟩
def Fits : List (D → Prop) → List D → Prop
 | [], [] => True
 | S :: ss, d :: ds => S d ∧ Fits ss ds
 | _, _ => False
def tight (P : Program) : Nat → List Field → Bool
 | _, [] => true
 | o, f :: fs => f.offset == o && tight P (o + P.cellsOf f.type) fs
theorem qqd {p : Addr → Prop} {w : World} : ∀ {ds : List D} {cs : List Value}, zz p w ds cs → (∀ d ∈ ds, d.plain = true) → ∀ u ∈ cs, u.oneCell' = true
 | [], cs, h, _, u, hu => by simp only [zz] at h; subst h; simp at hu
 | d :: ds, cs, h, hp, u, hu => by
  simp only [zz] at h
  obtain ⟨v, rest, rfl, h1, h2⟩ := h
  rcases jl.1 hu with hu | hu
  exact h1.one (hp d (jd ..)) u hu
  exact qqd h2 (fun e he => hp e (jf _ he)) u hu
def total (P : Program) : List Field → Nat
 | [] => 0
 | f :: fs => P.cellsOf f.type + total P fs
def layD (n : Nat) (hn : 0 < n) (S : D → Prop) : Lay D where
 C := fun w d cs => S d ∧ d.plain = true ∧ sz d = n ∧ ∃ v, Rep (live w) w d v ∧ cs = v.cells.toList
 n := n
 pos := hn
 ext := fun ⟨h1, h2, h3, v, h4, h5⟩ e => ⟨h1, h2, h3, v, h4.grow (qAD e), h5⟩
 len := fun ⟨_, _, h3, v, h4, h5⟩ => by rw [h5, ← h3, ← h4.sz]; simp
 one := fun ⟨_, h2, _, v, h4, h5⟩ u hu => by subst h5; exact h4.one h2 u hu
theorem qAd {n : Nat} {hn : 0 < n} {S : D → Prop} {w : World} : ∀ {l : List D} {xs : List Value}, (layD n hn S).Ls w l xs → (∀ d ∈ l, S d ∧ d.plain = true) ∧ zz (live w) w l xs
 | [], xs, h => by
  have h : xs = [] := h
  subst h
  exact ⟨by simp, zz.nil _ _⟩
 | d :: l, xs, ⟨cs, ys, h1, ⟨g1, g2, _, v, g4, g5⟩, h3⟩ => by
  obtain ⟨k1, k2⟩ := qAd h3
  subst h1 g5
  refine ⟨?_, zz.cons g4 k2⟩
  intro e he
  rcases jh.1 he with rfl | he
  exact ⟨g1, g2⟩
  exact k1 e he
theorem qDP {w : World} {A : Option Addr} {xs : List Value} (h : Rd w A xs) : RdP (live w) w A xs := by
 rcases h with h | ⟨ad, rfl, hc⟩
 exact .inl h
 by_cases he : xs = []
 exact .inl he
 have hlen : 0 < xs.length := vI.2 he
 have hsp : ad.spot = none := by
  have := qq5 (hc 0 _ (jq hlen))
  simpa [Addr.add] using this
 obtain ⟨b, o, sp⟩ := ad
 simp only at hsp
 subst hsp
 refine .inr ⟨b, o, rfl, fun j u hu => ?_⟩
 have h1 : w.cell? ⟨b, o + j, none⟩ = some u := by have := hc j u hu; rwa [qs3] at this
 exact ⟨⟨u, h1⟩, h1⟩
theorem qwP {α : Type} {f : α → D} : ∀ {l : List D}, (∀ x ∈ l, ∃ a, x = f a) → ∃ av : List α, l = av.map f
 | [], _ => ⟨[], rfl⟩
 | d :: l, h => by
  obtain ⟨a, rfl⟩ := h d (jd ..)
  obtain ⟨av, rfl⟩ := qwP fun x hx => h x (jf _ hx)
  exact ⟨a :: av, rfl⟩
/-! ### terms -/
/-! ### a law's arguments -/
def Cl (t : TypeId) (S : D → Prop) : Prop := ∀ (W : World) (b : Nat) (v : Value), Value.okWide Tryz.prog W .any b t v → ∀ d, S d → v = yb d v.cells.toList
theorem Cl.to {t : TypeId} {S S' : D → Prop} (h : Cl t S') (k : ∀ d, S d → S' d) : Cl t S := fun W b v hv d hd => h W b v hv d (k d hd)
theorem qAp {t : TypeId} {fs : Array Field} (ht : (Tryz.prog).underlying t = some (.struct fs)) : Cl t fun d => ∃ ds, d = .agg ds := fun W b v hv d ⟨ds, hd⟩ => by
 obtain ⟨cs, rfl, _⟩ := okWide_struct ht hv
 subst hd
 simp [Value.cells, yb]
theorem qBk {t e : TypeId} (ht : (Tryz.prog).underlying t = some (.slice e)) : Cl t fun d => ∃ l, d = .lst l := fun W b v hv d ⟨l, hd⟩ => by
 obtain ⟨a, n, c, rfl⟩ := okWide_slice ht hv
 subst hd
 simp [Value.cells, yb]
theorem qEr {t : TypeId} (ht : (Tryz.prog).underlying t = some (.int .i64)) : Cl t fun d => ∃ n, d = .int .i64 n := fun W b v hv d ⟨n, hd⟩ => by
 obtain ⟨m, rfl⟩ := okWide_int ht hv
 subst hd
 simp [Value.cells, yb]
end Go.Proofs.YtamoolpdganckaaGreat
namespace Go.Proofs.YtamoolpdganckaaGreat
set_option maxRecDepth 100000
open Go.RowKit
theorem qx1 (n : Nat) (hM : n ≤ 1000000000) (t : T) (hn : wt t ≤ n) : zf Tryz.prog 58 [zl t] (.int .i64 (zp t : Nat)) := zb6 (wrap64 (by have := qty t; omega)) fun _ w v h => qmA n t v w hn hM (qA2 h)
open Classical in
noncomputable def yA (v : Value) : List MapEntry → Nat → Option (Nat × Value)
 | [], _ => none
 | e :: es, i => if e.key = v then some (i, e.val) else yA v es (i + 1)
structure zaG (P : Program) (kt : TypeId) {α : Type} (key : α → D) (vk : α → Value) (d : Value → Prop) : Prop where
 rep : ∀ (p : Addr → Prop) (w : World) (a : α) (v : Value), Rep p w (key a) v → v = vk a
 good : ∀ (p : Addr → Prop) (w : World) (a : α) (v : Value), Rep p w (key a) v → d v
 inj : ∀ a b, vk a = vk b → a = b
 check : ∀ (w : World) (em : Bool) (v : Value), d v → (Instr.checkKey em 10000 kt v).run P w = .ok () w
 find : ∀ (w : World) (v : Value) (es : List MapEntry), d v → (∀ e ∈ es, d e.key) → (Instr.findKey kt v es).run P w = .ok (yA v es 0) w
 stays : ∀ (w : World) (v : Value), d v → (Instr.keyThatStays v v).run P w = .ok v w
theorem qor {d : TypeDesc} {k : Value} (hk : MapKept.IsKey d k) : ∀ (es : List MapEntry) (i : Nat), (∀ e ∈ es, MapKept.IsKey d e.key) → Instr.findNow d k es i = some (yA k es i)
 | [], i, _ => rfl
 | e :: es, i, h => by
  obtain ⟨b, hb, hiff⟩ := MapKept.sameNow_of_keys hk (h e (jd ..))
  simp only [Instr.findNow, hb, yA]
  cases b with
  | true => rw [if_pos (hiff.1 rfl).symm]
  | false =>
   rw [if_neg fun e => by have := hiff.2 e.symm; cases this]
   exact qor hk es (i + 1) fun x hx => h x (jf _ hx)
theorem qyp {P : Program} {kt : TypeId} {d : TypeDesc} {α : Type} {key : α → D} {vk : α → Value} (h : P.underlying kt = some d) (h1 : ∀ (p : Addr → Prop) (w : World) (a : α) (v : Value), Rep p w (key a) v → v = vk a) (h2 : ∀ a, MapKept.IsKey d (vk a)) (h3 : ∀ a b, vk a = vk b → a = b) : zaG P kt key vk (MapKept.IsKey d) :=
 ⟨h1, fun p w a v hv => by rw [h1 p w a v hv]; exact h2 a, h3, fun w em v hv => MapKept.run_checkKey h hv em 9999, fun w v es hv he => MapKept.run_findKey h (qor hv es 0 he), fun w v hv => MapKept.run_keyThatStays hv⟩
theorem yQ {P : Program} {kt : TypeId} {k : IntKind} (h : P.underlying kt = some (.int k)) : zaG P kt (fun n : Int => D.int k n) (fun n => .int k n) (MapKept.IsKey (.int k)) :=
 qyp h (fun p w a v hv => by simp only [Rep] at hv; exact hv.1) (fun a => rfl) fun a b e => by injection e
theorem qm9 {α : Type} {P : Program} {kt : TypeId} {key : α → D} {vk : α → Value} {d : Value → Prop} (hK : zaG P kt key vk d) {p : Addr → Prop} {w : World} : ∀ {l : List (α × D)} {es : List MapEntry}, z5 p w (l.map fun q => (key q.1, q.2)) es → ∀ e ∈ es, d e.key
 | [], es, h, e, he => by
  simp only [j7, z5] at h
  subst h
  cases he
 | r :: l, es, h, e, he => by
  simp only [jm, z5] at h
  obtain ⟨e0, rest, rfl, h1, h2, h3⟩ := h
  rcases jh.1 he with rfl | he
  exact hK.good _ _ _ _ h1
  exact qm9 hK h3 e he
section
variable {α : Type} [DecidableEq α]
abbrev zbj (key : α → D) (l : List (α × D)) : List (D × D) := l.map fun q => (key q.1, q.2)
def zay : List (α × D) → α → Option D
 | [], _ => none
 | q :: l, x => if q.1 = x then some q.2 else zay l x
def za6 : List (α × D) → α → D → List (α × D)
 | [], x, d => [(x, d)]
 | q :: l, x, d => if q.1 = x then (x, d) :: l else q :: za6 l x d
theorem qwX : ∀ (l : List (α × D)) (x : α) (d : D), (za6 l x d).length ≤ l.length + 1
 | [], x, d => by simp [za6]
 | q :: l, x, d => by
  unfold za6
  split
  simp
  have := qwX l x d
  simp only [jg]
  omega
theorem qqR {P : Program} {kt : TypeId} {key : α → D} {vk : α → Value} {d : Value → Prop} (hK : zaG P kt key vk d) (p : Addr → Prop) (w : World) (x : α) (dd : D) : ∀ (l : List (α × D)) (es : List MapEntry) (i : Nat), z5 p w (zbj key l) es →
 (yA (vk x) es i = none ∧ zay l x = none ∧ za6 l x dd = l ++ [(x, dd)]) ∨
 ∃ j e dv, yA (vk x) es i = some (i + j, e.val) ∧ es[j]? = some e ∧ e.key = vk x ∧ zay l x = some dv ∧ Rep p w dv e.val ∧ ∀ (q : Addr → Prop) (u : World) (e' : MapEntry), zT p w q u → Rep q u (key x) e'.key → Rep q u dd e'.val → z5 q u (zbj key (za6 l x dd)) (es.set j e')
 | [], es, i, h => by
  simp only [zbj, j7, z5] at h
  subst h
  exact .inl ⟨rfl, rfl, rfl⟩
 | r :: l, es, i, h => by
  simp only [zbj, jm, z5] at h
  obtain ⟨e, rest, rfl, h1, h2, h3⟩ := h
  have hk := hK.rep _ _ _ _ h1
  by_cases hx : r.1 = x
  refine .inr ⟨0, e, r.2, by simp [yA, hk, hx], rfl, by rw [hk, hx], by simp [zay, hx], h2, fun q u e' g q1 q2 => ?_⟩
  simp only [za6, if_pos hx, zbj, jm, z5, jD]
  exact ⟨e', rest, rfl, q1, q2, h3.grow g⟩
  have hne : e.key ≠ vk x := fun e' => hx (hK.inj _ _ (by rw [← hk]; exact e'))
  rcases qqR hK p w x dd l rest (i + 1) h3 with ⟨q1, q2, q3⟩ | ⟨j, e2, dv, q1, q2, q3, q4, q5, q6⟩
  exact .inl ⟨by simp [yA, hne, q1], by simp [zay, hx, q2], by simp [za6, hx, q3]⟩
  refine .inr ⟨j + 1, e2, dv, by simp [yA, hne, q1]; omega, by simpa using q2, q3, by simp [zay, hx, q4], q5, fun q u e' g r1 r2 => ?_⟩
  simp only [za6, if_neg hx, zbj, jm, z5, jC]
  exact ⟨e, _, rfl, h1.grow g, h2.grow g, q6 q u e' g r1 r2⟩
theorem quY {p : Addr → Prop} {w : World} : ∀ {l m : List (D × D)} {es fs : List MapEntry}, z5 p w l es → z5 p w m fs → z5 p w (l ++ m) (es ++ fs)
 | [], m, es, fs, h, k => by simp only [z5] at h; subst h; simpa using k
 | r :: l, m, es, fs, h, k => by
  obtain ⟨a, b⟩ := r
  simp only [z5] at h
  obtain ⟨e, rest, rfl, h1, h2, h3⟩ := h
  simp only [jB, z5]
  exact ⟨e, _, rfl, h1, h2, quY h3 k⟩
variable {P : Program} {o : Oper} {ρ : Operand → Option D}
theorem qAA {t : TypeId} {σ : St} (ho : o.op = .makeMap t none) : zC P o ρ σ fun d' σ' => ∃ r, d' = .map r ∧ σ' = .map r [] :: σ := fun K p a w hi h => by
 have hr : (execOp a.eval o).run P w = .ok (.value (.map (some w.heap.size))) (w.alloc (.map #[] 0)) := by
  unfold execOp
  rw [ho]
  simp [Instr.makeMap]
 unfold Oper.wp
 rw [hr]
 refine ⟨_, .map w.heap.size, _, p, rfl, ⟨w.heap.size, rfl, rfl⟩, by simp only [Rep], ?_, qgy hi.pub _⟩
 refine (hi.alloc _).more ⟨#[], 0, heap_alloc_new w _, by simp only [z5], by simp, by simp, by simp⟩ fun b hb => ?_
 simp only [Ob.blk, Option.some.injEq] at hb
 subst hb
 exact ⟨.inl hi.size, fun hm => by have := hi.lt hm; omega⟩
theorem qvZ {t kt e : TypeId} {x y v : Operand} {key : α → D} {vk : α → Value} {d : Value → Prop} {r : Nat} {l : List (α × D)} {a0 : α} {dn dd : D} {σ : St} (τ : St) (ho : o.op = .mapUpdate t x y v) (ht : P.underlying t = some (.map kt e)) (hK : zaG P kt key vk d) (hx : ρ x = some (.map r)) (hy : ρ y = some (key a0)) (hv : ρ v = some dn) (hw : Wk dn dd) (hσ : σ.Perm (.map r (zbj key l) :: τ)) (hlen : l.length < 9223372036854775807) :
 zC P o ρ σ fun _ σ' => σ' = .map r (zbj key (za6 l a0 dd)) :: τ := fun K p a w hi h => by
 have h1 := h x (by rw [ho]; simp [Op.operands]) _ hx
 have hyr := h y (by rw [ho]; simp [Op.operands]) _ hy
 have h2 := hK.rep _ _ _ _ hyr
 have hgood : d (vk a0) := h2 ▸ hK.good _ _ _ _ hyr
 have h3 := hw _ _ _ (h v (by rw [ho]; simp [Op.operands]) _ hv)
 simp only [Rep] at h1
 have hi' := hi.perm hσ
 obtain ⟨es, clock, g1, g2, g3, gn, gl⟩ := hi'.ok _ (jd ..)
 have hc := hK.check w false (vk a0) hgood
 have hlt : r < w.heap.size := (jE.1 g1).1
 have fin : ∀ (es' : Array MapEntry) (clock' : Nat), (es'.toList.map (·.born)).Nodup → (∀ e ∈ es'.toList, e.born < clock') → (∀ (q : Addr → Prop) (u : World), zT p w q u → z5 q u (zbj key (za6 l a0 dd)) es'.toList) →
  ∃ p', Inv K p' (.map r (zbj key (za6 l a0 dd)) :: τ) { w with heap := w.heap.setIfInBounds r (.map es' clock') } ∧ zT p w p' { w with heap := w.heap.setIfInBounds r (.map es' clock') } ∧ p' = p := fun es' clock' hn' hl' hr => by
  have hset := MapKept.heap_set (o' := .map es' clock') g1
  have hcell : ∀ a', p a' → ({ w with heap := w.heap.setIfInBounds r (.map es' clock') } : World).cell? a' = w.cell? a' := fun a' ha => qju (hset.2 _ (by
   intro e
   obtain ⟨u, hu⟩ := hi.pub a' ha
   unfold World.cell? at hu
   rw [e, g1] at hu
   cases hu))
  have gr : zT p w p { w with heap := w.heap.setIfInBounds r (.map es' clock') } := fun a' ha => ⟨ha, hcell a' ha⟩
  refine ⟨p, hi'.write (b := r) rfl rfl gr (fun a' ha => .inl ha) ⟨es', clock', hset.1, hr _ _ gr, ?_, hn', hl'⟩ (fun a' ha => ?_) rfl rfl rfl og fun k hk => hset.2 k hk, gr, rfl⟩
  · have := qwX l a0 dd
    simp only [jb]
    omega
  · obtain ⟨u, hu⟩ := hi.pub a' ha
    exact ⟨u, by rw [hcell a' ha]; exact hu⟩
 rcases qqR hK p w a0 dd l es.toList 0 g2 with ⟨q1, q2, q3⟩ | ⟨j, e', dv, q1, q2, q3, q4, q5, q6⟩
 · have hf := (hK.find w (vk a0) es.toList hgood (qm9 hK g2)).trans (by rw [q1])
   have hr : (execOp a.eval o).run P w = .ok .skip { w with heap := w.heap.setIfInBounds r (.map (es.push { key := vk a0, val := a.eval v, born := clock }) (clock + 1)) } := by
    unfold execOp
    rw [ho]
    simp [h1, h2, Instr.mapUpdate, run_underlying ht, MapKept.run_getObj_map g1, hc, hf, MapKept.run_setObj_map _ g1]
   unfold Oper.wp
   rw [hr]
   obtain ⟨p', f1, f2, rfl⟩ := fin (es.push { key := vk a0, val := a.eval v, born := clock }) (clock + 1) (by
    rw [Array.toList_push, jK]
    refine jH.2 ⟨gn, by simp, fun x hx y hy hxy => ?_⟩
    obtain ⟨e, he, rfl⟩ := jx.1 hx
    simp only [jm, j7, jn] at hy
    have := gl e he
    omega) (by
    intro e he
    rw [Array.toList_push] at he
    rcases jl.1 he with he | he
    have := gl e he; omega
    rw [jn.1 he]; exact Nat.lt_succ_self _) fun q u g => by
    rw [q3, Array.toList_push, zbj, jK]
    refine quY (g2.grow g) ?_
    simp only [jm, j7, z5]
    exact ⟨_, [], rfl, h2 ▸ hyr.grow g, h3.grow g, rfl⟩
   exact ⟨Go.undef, .undef, _, p', rfl, rfl, by simp only [Rep], f1, f2⟩
 · have hf := (hK.find w (vk a0) es.toList hgood (qm9 hK g2)).trans (by rw [q1])
   rw [ju] at hf
   have hks : (Instr.keyThatStays (((es[j]?).map (·.key)).getD (vk a0)) (vk a0)).run P w = .ok (vk a0) w := by
    have : es[j]? = some e' := by simpa using q2
    rw [this]
    simp only [Option.map_some, vV, q3]
    exact hK.stays w _ hgood
   have hr : (execOp a.eval o).run P w = .ok .skip { w with heap := w.heap.setIfInBounds r (.map (es.modify j fun e => { e with key := vk a0, val := a.eval v }) clock) } := by
    unfold execOp
    rw [ho]
    simp [h1, h2, Instr.mapUpdate, run_underlying ht, MapKept.run_getObj_map g1, hc, hf, hks, MapKept.run_setObj_map _ g1]
   unfold Oper.wp
   rw [hr]
   have hm : (es.modify j fun e => { e with key := vk a0, val := a.eval v }).toList = es.toList.set j { e' with key := vk a0, val := a.eval v } := by
    apply List.ext_getElem?
    intro k
    rw [vr, Array.getElem?_modify, List.getElem?_set, vr]
    have hj := (jt.1 q2).1
    by_cases hjk : j = k
    subst hjk
    rw [if_pos rfl, if_pos rfl, if_pos hj]
    have : es[j]? = some e' := by simpa using q2
    rw [this]; rfl
    rw [if_neg hjk, if_neg hjk]
   have hb : (es.toList.set j { e' with key := vk a0, val := a.eval v }).map (·.born) = es.toList.map (·.born) := by
    apply List.ext_getElem?
    intro k
    rw [List.getElem?_map, List.getElem?_set, List.getElem?_map]
    have hj := (jt.1 q2).1
    by_cases hjk : j = k
    subst hjk
    rw [if_pos rfl, if_pos hj, q2]
    rfl
    rw [if_neg hjk]
   obtain ⟨p', f1, f2, rfl⟩ := fin (es.modify j fun e => { e with key := vk a0, val := a.eval v }) clock (by rw [hm, hb]; exact gn) (by
    intro e he
    have h5 : e.born ∈ es.toList.map (·.born) := by rw [← hb, ← hm]; exact jF he
    obtain ⟨e2, h6, h7⟩ := jx.1 h5
    rw [← h7]
    exact gl e2 h6) fun q u g => by
    rw [hm]
    exact q6 q u _ g (h2 ▸ hyr.grow g) (h3.grow g)
   exact ⟨Go.undef, .undef, _, p', rfl, rfl, by simp only [Rep], f1, f2⟩
end
def zbg (u : Value) : Nat := u.ownBlock.getD 0
theorem qvL {p : Addr → Prop} {w : World} {u : Value} {l : List D} {e : TypeId} {s : Nat} (h : zbE p w (.vec u l e s)) (hl : l ≠ []) :
 ∃ g cap xs junk, u = .slice (some ⟨g, 0, none⟩) l.length cap ∧ zz p w l xs ∧ (∀ x ∈ xs, x.oneCell' = true) ∧ w.heap[g]? = some (.cells (xs ++ junk).toArray e (0, 0)) ∧ (∀ a, p a → a.block ≠ g) ∧ l.length ≤ cap ∧ cap ≤ maxLen ∧ (xs ++ junk).length = cap * s := by
 obtain ⟨h1, h2, ⟨xs, ⟨h3, h4⟩, h5, h6⟩, h7⟩ := h
 rcases h4 with ⟨_, h4⟩ | ⟨g, cap, cur, rfl, _, k1, k2, k3, k4, k5⟩
 · exact absurd (jA h4) hl
 · have e1 : xs ++ cur.toList.drop (l.length * s) = cur.toList := by rw [← k5, vc]
   exact ⟨g, cap, xs, cur.toList.drop (l.length * s), rfl, h5, h6, by rw [e1]; simpa using k1, h7 g rfl, k2, k3, by rw [e1]; simpa using k4⟩
section
variable {P : Program} {o : Oper} {ρ : Operand → Option D} {d : D}
theorem qD5 {x : Operand} {t e : TypeId} {u : Value} {n : Nat} (ho : o.op = .call { callee := .builtin .len, args := #[x], argTypes := #[t] }) (ht : P.underlying t = some (.slice e)) (hx : ρ x = some (.vec u n)) : zD P o ρ (.int .i64 (n : Int)) := qeF fun p a w h => by
 have h1 := h x (by rw [ho]; simp [Op.operands, Call.operands]) _ hx
 simp only [Rep] at h1
 obtain ⟨h1, A, c, rfl, h2, h3⟩ := h1
 refine ⟨.int .i64 (n : Int), ?_, by simpa only [Rep, true_and] using wrap64 oa⟩
 unfold execOp
 rw [ho]
 simp [resolve, invoke, builtin, h1, Builtin.len_, run_underlying ht, goInt]
theorem qyj {t e : TypeId} {x ix : Operand} {s by_ n : Nat} {u : Value} {k : IntKind} {m : Int} {σ : St} {l : List D} (j : Nat) (ho : o.op = .indexAddr t x ix) (hE : ElT P t e s by_) (hx : ρ x = some (.vec u n)) (hix : ρ ix = some (.int k m)) (hm : m = (j : Int)) (hj : j < l.length) (hσ : .vec u l e s ∈ σ) : zC P o ρ σ fun d' σ' => d' = .mref (zbg u) j s 0 [] ∧ σ' = σ := fun K p a w hi h => by
 have hne : l ≠ [] := fun e => by rw [e] at hj; simp at hj
 obtain ⟨g, cap, xs, junk, rfl, g1, g2, g3, g4, g5, g6, g7⟩ := qvL (hi.ok _ hσ) hne
 have h1 := h x (by rw [ho]; simp [Op.operands]) _ hx
 have hn : n = l.length := by
  simp only [Rep] at h1
  obtain ⟨_, A, c, h2, _⟩ := h1
  injection h2 with _ h2
  exact h2.symm
 have h7 := h ix (by rw [ho]; simp [Op.operands]) _ hix
 simp only [Rep] at h1 h7
 obtain ⟨h1, _⟩ := h1
 subst hm hn
 obtain ⟨i, hii, hin⟩ := jQ.1 hE.size
 have hr : (execOp a.eval o).run P w = .ok (.value (.pointer (some ⟨g, j * s + 0, none⟩))) w := by
  unfold execOp
  rw [ho]
  simp [h1, h7.1, Instr.indexAt, asIntOf, run_underlying hE.1, sizeOf, typeInfo, hii, hin, hj, zbk]
 unfold Oper.wp
 rw [hr]
 exact ⟨_, .mref g j s 0 [], σ, p, rfl, ⟨rfl, rfl⟩, by simp only [Rep], hi, zT.refl p w⟩
theorem qB4 {x y : Operand} {t e : TypeId} {s by_ n : Nat} {σ τ : St} {u : Value} {l m : List D} {dy : D} (ho : o.op = .call { callee := .builtin .append, args := #[x, y], argTypes := #[t, t] }) (hE : ElT P t e s by_) (hx : ρ x = some (.vec u n)) (hy : ρ y = some dy) (hm : AsL dy m) (hσ : σ.Perm (.vec u l e s :: τ)) (hml : zJ s m) (hb : (l.length + m.length) * by_ ≤ 140737488355328) (h63 : l.length + m.length ≤ 9223372036854775807) :
 zC P o ρ σ fun d' σ' => ∃ u', d' = .vec u' (l ++ m).length ∧ σ' = .vec u' (l ++ m) e s :: τ := fun K p a w hi h => by
 rw [je]
 obtain ⟨hu, ⟨z, hz, hzs⟩, hs0⟩ := hE
 obtain ⟨i, hii, hz', hsize, hby⟩ := info_parts hz
 have hi' := hi.perm hσ
 have hxv := h x (by rw [ho]; simp [Op.operands, Call.operands]) _ hx
 simp only [Rep] at hxv
 obtain ⟨hvu, _⟩ := hxv
 have hob := hi'.ok _ (jd ..)
 obtain ⟨hl, _, ⟨xs, ⟨k8, hopen⟩, k6, k7⟩, k9⟩ := hob
 obtain ⟨A, c, ys, g1, g2, g3, g4, g5, g6⟩ := hm.rep (h y (by rw [ho]; simp [Op.operands, Call.operands]) _ hy)
 have hyl : ys.length = m.length * s := by rw [g5.len, hml.szs]
 have hlm : zJ s (l ++ m) := fun d hd => (jl.1 hd).elim (hl d) (hml d)
 have hrun0 : ∀ r, (Builtin.append_ #[t, t] o.type #[u, .slice A m.length c]).run P w = r → (execOp a.eval o).run P w = r.andThen fun v w' => .ok (.value v) w' := fun r hr => by
  subst hr
  unfold execOp
  simp only [ho, resolve, invoke, builtin, Sem.run_bind, Sem.run_pure, Result.andThen_ok, List.map_toArray, jm, j7, hvu, g1]
 have hmx : maxLen = 9223372036854775807 := rfl
 -- where nothing is appended
 by_cases hm0 : m.length = 0
 · have hm0' : m = [] := jA hm0
   subst hm0'
   have hys : ys = [] := jA (by simpa using hyl)
   have hrep : Rep p w (.vec u l.length) u := by
    simp only [Rep]
    refine ⟨trivial, ?_⟩
    rcases hopen with ⟨rfl, h0⟩ | ⟨g, cap, cur, rfl, _, k1, k2, k3, _⟩
    exact ⟨none, 0, by rw [h0], by omega, by omega⟩
    exact ⟨_, cap, rfl, k2, by omega⟩
   have hr : (Builtin.append_ #[t, t] o.type #[u, .slice A 0 c]).run P w = .ok u w := by
    rcases hopen with ⟨rfl, _⟩ | ⟨g, cap, cur, rfl, _, k1, k2, _⟩
    cases A <;> simp [Builtin.append_, run_underlying hu, sizeOf, typeInfo, hii, Builtin.lenOf, Builtin.firstCells, loadCells, loadCellsFrom]
    cases A <;> simp [Builtin.append_, run_underlying hu, sizeOf, typeInfo, hii, Builtin.lenOf, Builtin.firstCells, loadCells, loadCellsFrom, k2, storeCells]
   unfold Oper.wp
   rw [hrun0 _ hr]
   exact ⟨u, .vec u (l.length + 0), _, p, rfl, ⟨u, rfl, rfl⟩, hrep, by simpa using hi', zT.refl p w⟩
 -- the cells that are appended
 · have hys : ys ≠ [] := fun hys => by
    rw [hys] at hyl
    have := vw (vx hm0) hs0
    simp at hyl
    omega
   rcases g4 with g4 | ⟨b, o', rfl, hcell⟩
   · exact absurd g4 hys
   have hnews : ∀ j v, ys[j]? = some v → w.cell? ((⟨b, o', none⟩ : Addr).add j) = some v := fun j v hv => by rw [zbk]; exact (hcell j v hv).2
   subst hsize
   subst hby
   have grown : ∀ (old : Nat), old < l.length + m.length →
    ∃ u', u' = .slice (some ⟨w.heap.size, 0, none⟩) (l.length + m.length) (grownCap w (l.length + m.length) old e) ∧ Rep p (w.drew.alloc (.cells (xs.toArray ++ ys.toArray ++ Builtin.zeroCells z.cells (grownCap w (l.length + m.length) old e - (l.length + m.length))) e)) (.vec u' (l.length + m.length)) u' ∧ Inv K p (.vec u' (l ++ m) e i.size :: τ) (w.drew.alloc (.cells (xs.toArray ++ ys.toArray ++ Builtin.zeroCells z.cells (grownCap w (l.length + m.length) old e - (l.length + m.length))) e)) ∧
     zT p w p (w.drew.alloc (.cells (xs.toArray ++ ys.toArray ++ Builtin.zeroCells z.cells (grownCap w (l.length + m.length) old e - (l.length + m.length))) e)) := fun old hold => by
    have hge := grownCap_ge w (l.length + m.length) old e
    have hcm : grownCap w (l.length + m.length) old e ≤ maxLen := grownCap_le_maxLen w (l.length + m.length) old e (by unfold maxLen; omega)
    have hlen : (xs ++ ys).length = (l.length + m.length) * i.size := by rw [je, k8, hyl, jy]
    have hs1 : (xs.toArray ++ ys.toArray ++ Builtin.zeroCells z.cells (grownCap w (l.length + m.length) old e - (l.length + m.length))).size = grownCap w (l.length + m.length) old e * i.size := by
     simp only [Array.size_append, j5, size_zeroCells, hzs, k8, hyl, ← jy]
     congr 1
     omega
    have ht1 : (xs.toArray ++ ys.toArray ++ Builtin.zeroCells z.cells (grownCap w (l.length + m.length) old e - (l.length + m.length))).toList.take ((l.length + m.length) * i.size) = xs ++ ys := by
     simp only [Array.toList_append, ji]
     rw [← ji, ← hlen]
     exact vH
    generalize xs.toArray ++ ys.toArray ++ Builtin.zeroCells z.cells (grownCap w (l.length + m.length) old e - (l.length + m.length)) = cur at hs1 ht1 ⊢
    have gr : zT p w p (w.drew.alloc (.cells cur e)) := (qhs p w).tr (qgy hi'.tail.drew.pub _)
    refine ⟨_, rfl, ?_, ?_, gr⟩
    · simp only [Rep]
      exact ⟨trivial, _, _, rfl, hge, by omega⟩
    · refine (hi'.tail.drew.alloc (.cells cur e)).more ⟨hlm, hs0, ⟨xs ++ ys, ⟨by rw [hlen, je], .inr ⟨w.heap.size, _, cur, by rw [je], jc _, heap_alloc_new w.drew _, by rw [je]; exact hge, hcm, hs1, by rw [je]; exact ht1⟩⟩, (k6.app g5).grow gr, fun x hx => (jl.1 hx).elim (k7 x) (g6 x)⟩, fun g hg a ha hab => ?_⟩ fun b hb => ?_
      · simp only [Value.ownBlock, Option.some.injEq] at hg
        have hg : w.heap.size = g := hg
        obtain ⟨v, hv⟩ := hi.pub a ha
        have := qoW hv
        omega
      · simp only [Ob.blk, Value.ownBlock, Option.some.injEq] at hb
        have hb : w.heap.size = b := hb
        subst hb
        exact ⟨.inl hi.size, fun hm => by have := hi'.tail.lt hm; omega⟩
   have hmpos : 0 < m.length := vx hm0
   rcases hopen with ⟨rfl, h0⟩ | ⟨g, cap, cur, rfl, _, k1, k2, k3, k4, k5⟩
   · obtain rfl := jA h0
     obtain rfl : xs = [] := jA (by simpa using k8)
     have hr := run_append_nil (P := P) w t o.type e i z hu hii hz' ⟨b, o', none⟩ m.length c ys hyl hnews oa oa (by have hb := hb; simp only [jV, ju] at hb; omega)
     obtain ⟨u', hu', q1, q2, q3⟩ := grown 0 oe
     simp only [jV, ju, Array.empty_append, jo] at hr q1 q2 q3 hu' ⊢
     unfold Oper.wp
     rw [hrun0 _ hr]
     subst hu'
     exact ⟨_, _, _, p, rfl, ⟨_, rfl, rfl⟩, q1, q2, q3⟩
   · by_cases hroom : l.length + m.length ≤ cap
     · have hfit : l.length * i.size + ys.length ≤ cur.size := by rw [hyl, k4, ← jy]; exact jM _ hroom
       have hr := run_append_room (P := P) w t o.type e i hu hii g l.length cap cur k1 ⟨b, o', none⟩ m.length c ys hyl hnews g6 hroom hfit
       unfold Oper.wp
       rw [hrun0 _ hr]
       generalize hnew : (cur.toList.take (l.length * i.size) ++ ys ++ cur.toList.drop (l.length * i.size + ys.length)) = new
       have hh := setRow_heap w g cur new.toArray e (0, 0) k1
       have htl : (cur.toList.take (l.length * i.size)).length = l.length * i.size := by rw [k5, k8]
       have hnewl : new.take ((l.length + m.length) * i.size) = xs ++ ys := by
        rw [← hnew, k5]
        have : (xs ++ ys).length = (l.length + m.length) * i.size := by rw [je, k8, hyl, jy]
        rw [← this]
        exact vH
       have gr : zT p w p (w.setRow g new.toArray) := fun a' ha => ⟨ha, qju (setRow_other w g _ _ (k9 g rfl a' ha))⟩
       have hle : (l.length + m.length) * i.size ≤ cap * i.size := jM _ hroom
       have hnl : new.length = cap * i.size := by
        rw [← hnew]
        simp only [je, vy, htl, hyl, jW, k4]
        rw [jy] at hle
        omega
       refine ⟨.slice (some ⟨g, 0, none⟩) (l.length + m.length) cap, .vec (.slice (some ⟨g, 0, none⟩) (l.length + m.length) cap) (l.length + m.length), _, p, rfl, ⟨_, rfl, rfl⟩, ?_, ?_, gr⟩
       · simp only [Rep]
         exact ⟨trivial, _, cap, rfl, hroom, by omega⟩
       · refine hi'.write (b := g) rfl rfl gr (fun a' ha => .inl ha) ⟨hlm, hs0, ⟨xs ++ ys, ⟨by rw [je, je, k8, hyl, jy], .inr ⟨g, cap, new.toArray, by rw [je], jc _, hh, by rw [je]; exact hroom, k3, by simpa using hnl, by rw [je]; simpa using hnewl⟩⟩, (k6.app g5).grow gr, fun x hx => (jl.1 hx).elim (k7 x) (g6 x)⟩, fun g' hg' a' ha hab => k9 g rfl a' ha (by simp only [Value.ownBlock, Option.some.injEq] at hg'; exact hab.trans hg'.symm)⟩ (fun a' ha => ?_) rfl rfl rfl og fun k hk => setRow_other w g k _ hk
         obtain ⟨v, hv⟩ := hi.pub a' ha
         exact ⟨v, by rw [(gr a' ha).2]; exact hv⟩
     · have holds : ∀ j v, xs[j]? = some v → w.cell? ((⟨g, 0, none⟩ : Addr).add j) = some v := fun j v hv => by
        rw [zbk, ju, cell_of_row _ _ _ _ _ _ k1]
        have hj := (jt.1 hv).1
        rw [← k5, j8, if_pos oa] at hv
        simpa using hv
       have hr := run_append_grow (P := P) w t o.type e i z hu hii hz' ⟨g, 0, none⟩ l.length cap xs k8 holds ⟨b, o', none⟩ m.length c ys hyl hnews oa oa (growslice_fits oa hb)
       obtain ⟨u', hu', q1, q2, q3⟩ := grown cap oa
       unfold Oper.wp
       rw [hrun0 _ hr]
       subst hu'
       exact ⟨_, _, _, p, rfl, ⟨_, rfl, rfl⟩, q1, q2, q3⟩
theorem qj6 {t e : TypeId} {x : Operand} {n i s off : Nat} {u : Value} {path : List Nat} {σ : St} {l : List D} {d0 : D} (ho : o.op = .load t x) (hx : ρ x = some (.mref (zbg u) i s off path)) (hσ : .vec u l e s ∈ σ) (hl : l[i]? = some d0) (hs : yX d0 path = some d) (hoff : yt d0 path = off) (ht : Ty P t d.isAgg n) (hn : sz d = n) : zC P o ρ σ fun d' σ' => d' = d ∧ σ' = σ := fun K p a w hi h => by
 have h1 := h x (by rw [ho]; simp [Op.operands]) _ hx
 simp only [Rep] at h1
 obtain ⟨g, cap, xs, junk, rfl, g3, g4, g5, g6, _⟩ := qvL (hi.ok _ hσ) (fun h => by rw [h] at hl; simp at hl)
 have g1 : zJ s l := (hi.ok _ hσ).1
 obtain ⟨v0, hv0, hc0⟩ := g3.at_cell hl
 obtain ⟨v, hv, hc⟩ := qkO hv0 hs
 have hmin : (l.take i).length = i := by have := (jt.1 hl).1; simp; omega
 rw [(g1.take i).szs, hmin] at hc0
 have hlr := qjj (P := P) (b := g) (o := i * s + off) ht hn hv (fun j y hy => by
  rw [cell_of_row _ _ _ _ _ _ g5, ← hoff]
  have := hc0 _ y (hc j y hy)
  have hlt := (jt.1 this).1
  simp only [vZ]
  rw [jJ, jT hlt]
  exact this)
 have hr : (execOp a.eval o).run P w = .ok (.value v) w := by
  unfold execOp
  rw [ho]
  simp [h1, zbg, Value.ownBlock, Instr.loadAt, Instr.sureAddr, hlr]
 unfold Oper.wp
 rw [hr]
 exact ⟨v, d, σ, p, rfl, ⟨rfl, rfl⟩, hv, hi, zT.refl p w⟩
theorem qBc {t e : TypeId} {x y : Operand} {n i s off : Nat} {u : Value} {path : List Nat} {σ : St} (τ : St) {l : List D} {d0 dOld dn : D} {ag : Bool} (ho : o.op = .store t x y) (hx : ρ x = some (.mref (zbg u) i s off path)) (hy : ρ y = some dn) (hw : Wk dn d) (hσ : σ.Perm (.vec u l e s :: τ)) (hl : l[i]? = some d0) (hp0 : d0.plain = true) (hs : yX d0 path = some dOld) (hoff : yt d0 path = off) (ht : Ty P t ag n) (hn : sz d = n) (hn' : sz dOld = n) (hp : d.plain = true) : zC P o ρ σ fun _ σ' => σ' = .vec u (l.set i (zaP d0 path d)) e s :: τ := fun K p a w hi h => by
 have h1 := h x (by rw [ho]; simp [Op.operands]) _ hx
 simp only [Rep] at h1
 have h2 := hw _ _ _ (h y (by rw [ho]; simp [Op.operands]) _ hy)
 have hi' := hi.perm hσ
 have hob := hi'.ok _ (jd ..)
 obtain ⟨b, cap, xs, junk, rfl, g3, g4, g5, g6, c1, c2, c3⟩ := qvL hob (fun h => by rw [h] at hl; simp at hl)
 obtain ⟨g1, g0, _, _⟩ := hob
 obtain ⟨ii, hii, hin⟩ := jQ.1 ht.2
 have hsz : (a.eval y).cells.size = n := by rw [Rep.sz h2, hn]
 have hil := (jt.1 hl).1
 have hmin : (l.take i).length = i := by simp; omega
 obtain ⟨v0, hv0, hsplit, hlen1⟩ := g3.at_ hl
 obtain ⟨v', q1, q2, q3, q4, q5⟩ := qpK hv0 hs (by rw [hn, hn']) h2 hp hp0
 have hset := zz.set g3 hl q5 q1
 rw [(g1.take i).szs, hmin] at hsplit hlen1 hset
 have hd0 : sz d0 = s := g1 d0 (List.mem_of_getElem? hl)
 have hv0l : v0.cells.toList.length = s := by rw [← hd0]; simpa using Rep.sz hv0
 have hxl : xs.length = l.length * s := by rw [g3.len, g1.szs]
 have hle : (i + 1) * s ≤ l.length * s := jM s oa
 rw [jy, jU] at hle
 have hst := run_storeCells_at (P := P) b (i * s + off) e (a.eval y).cells.toList 0 (xs ++ junk).toArray w g5 (by
  simp only [jW, hsz, j4, j5, je]
  rw [hd0, hn, hoff] at q4
  omega) (Rep.one h2 hp)
 have hrow : ((xs ++ junk).toArray.toList.take (i * s + off + 0) ++ (a.eval y).cells.toList ++ (xs ++ junk).toArray.toList.drop (i * s + off + 0 + (a.eval y).cells.toList.length)).toArray = ((xs.take (i * s) ++ v'.cells.toList ++ xs.drop (i * s + s)) ++ junk).toArray := by
  congr 1
  simp only [j4, jW, hsz, ← hn]
  rw [q3, hoff]
  rw [hd0, hoff] at q4
  generalize hA : xs.take (i * s) = A at hsplit hlen1 ⊢
  generalize hB : xs.drop (i * s + s) = B
  rw [hd0, hB] at hsplit
  rw [hsplit]
  have e1 : (A ++ v0.cells.toList ++ B ++ junk).take (i * s + off) = A ++ v0.cells.toList.take off := by
   rw [← hlen1, ji, ji, vb, Jj oa]
  have e2 : (A ++ v0.cells.toList ++ B ++ junk).drop (i * s + off + sz d) = v0.cells.toList.drop (off + sz d) ++ (B ++ junk) := by
   rw [← hlen1, ji, ji, jJ, va, Jk oa]
  rw [e1, e2]
  simp only [ji]
 rw [hrow] at hst
 have hr : (execOp a.eval o).run P w = .ok .skip (w.setRow b ((xs.take (i * s) ++ v'.cells.toList ++ xs.drop (i * s + s)) ++ junk).toArray) := by
  unfold execOp
  rw [ho]
  simp only [h1, zbg, Value.ownBlock, vV, Instr.storeAt, Instr.sureAddr, storeVar, Sem.run_bind, Sem.run_pure, Result.andThen_ok, sizeOf, typeInfo, run_program, hii, hsz, hin, ne_eq, not_true_eq_false, if_false, hst]
 have gr : zT p w p (w.setRow b ((xs.take (i * s) ++ v'.cells.toList ++ xs.drop (i * s + s)) ++ junk).toArray) := fun a' ha => ⟨ha, qju (setRow_other w b _ _ (g6 a' ha))⟩
 unfold Oper.wp
 rw [hr]
 refine ⟨Go.undef, .undef, _, p, rfl, rfl, by simp only [Rep], ?_, gr⟩
 rw [q5, hd0] at hset
 have hnl : (xs.take (i * s) ++ v'.cells.toList ++ xs.drop (i * s + s)).length = l.length * s := by
  have e3 := hset.len
  rw [e3]
  have hall : zJ s (l.set i (zaP d0 path d)) := fun e' he' => by
   rcases Jc he' with h | rfl
   exact g1 e' h
   rw [q5, hd0]
  rw [hall.szs]
  simp
 refine hi'.write (b := b) rfl rfl gr (fun a' ha => .inl ha) ⟨fun e' he' => ?_, g0, ⟨_, ⟨by rw [hnl]; simp, .inr ⟨b, cap, _, by simp, jc _, setRow_heap w b _ _ _ _ g5, by simpa using c1, c2, ?_, ?_⟩⟩, hset.grow gr, fun u hu => ?_⟩, fun g' hg' a' ha hab => g6 a' ha (by simp only [Value.ownBlock, Option.some.injEq] at hg'; exact hab.trans hg'.symm)⟩ (fun a' ha => ?_) rfl rfl rfl og fun k hk => setRow_other w b k _ hk
 rcases Jc he' with h | rfl
 exact g1 e' h
 rw [q5, hd0]
 rw [j5, je, hnl, ← hxl, ← je, c3]
 simp only [List.length_set]
 rw [← hnl]
 exact vH
 rcases jl.1 hu with hu | hu
 rcases jl.1 hu with hu | hu
 exact g4 u (vd hu)
 exact Rep.one q1 q2 u hu
 exact g4 u (ve hu)
 obtain ⟨u, hu⟩ := hi.pub a' ha
 exact ⟨u, by rw [(gr a' ha).2]; exact hu⟩
end
section
variable {P : Program} {f : FuncId} {fn : Func} {K : Ctx} {R : D → St → Prop} {k : List Item} {env : Env} {σ τ : St}
theorem qA9 {m : Md} (e : TypeId) (s : Nat) (hs0 : 0 < s) (h : zk m P f fn K R k env (.vec (.slice none 0 0) ([] : List D) e s :: σ)) : zk m P f fn K R k env σ := fun p a w hi =>
 h p a w (hi.more (o := .vec (.slice none 0 0) [] e s) ⟨zJ.nil s, hs0, ⟨[], World.ownsRow_nil w 0 e s, zz.nil _ _, by simp⟩, fun g hg => by simp [Value.ownBlock] at hg⟩ (fun b hb => by simp [Ob.blk, Value.ownBlock] at hb))
end
abbrev wr (n : Int) : Int := IntKind.i64.wrap n
theorem qgA {n : Int} (h : -9223372036854775808 ≤ n ∧ n < 9223372036854775808) : wr n = n := wrap64 h
def zi {α : Type} (l : List α) (n : Int) : Option α := if 0 ≤ n then l[n.toNat]? else none
theorem qdQ {α : Type} (l : List α) (i : Nat) : zi l (i : Int) = l[i]? := by simp [zi]
theorem qbV {α : Type} {l : List α} {n : Int} {q : α} (h : zi l n = some q) : 0 ≤ n ∧ l[n.toNat]? = some q := by
 unfold zi at h
 split at h
 exact ⟨by assumption, h⟩
 cases h
def zF {α : Type} (b : Nat) (l m : List α) : Option (List α) := if (l.length + m.length) * b ≤ 140737488355328 ∧ l.length + m.length ≤ 9223372036854775807 then some (l ++ m) else none
theorem qk5 {α : Type} {b : Nat} {l m : List α} (h : (l.length + m.length) * b ≤ 140737488355328) (h2 : l.length + m.length ≤ 9223372036854775807) : zF b l m = some (l ++ m) := by rw [zF, if_pos ⟨h, h2⟩]
theorem qqh {α : Type} {b : Nat} {l m r : List α} (h : zF b l m = some r) : (l.length + m.length) * b ≤ 140737488355328 ∧ l.length + m.length ≤ 9223372036854775807 ∧ r = l ++ m := by
 unfold zF at h
 split at h
 rename_i h1
 exact ⟨h1.1, h1.2, (Option.some.inj h).symm⟩
 cases h
def zZ {α : Type} (l : List α) (lo hi : Int) : Option (List α) := if 0 ≤ lo ∧ lo ≤ hi ∧ hi ≤ l.length then some ((l.take hi.toNat).drop lo.toNat) else none
theorem qzY {α : Type} {l r : List α} {lo hi : Int} (h : zZ l lo hi = some r) : 0 ≤ lo ∧ lo ≤ hi ∧ hi ≤ l.length ∧ r = (l.take hi.toNat).drop lo.toNat := by
 unfold zZ at h
 split at h
 rename_i h1
 exact ⟨h1.1, h1.2.1, h1.2.2, (Option.some.inj h).symm⟩
 cases h
def zai (b : Nat) (n : Int) : Option Nat := if 0 ≤ n ∧ b * n.toNat ≤ 281474976710656 ∧ n.toNat ≤ 9223372036854775807 then some n.toNat else none
theorem qsL {b : Nat} {n : Int} {r : Nat} (h : zai b n = some r) : n = (r : Int) ∧ b * r ≤ 281474976710656 ∧ r ≤ 9223372036854775807 := by
 unfold zai at h
 split at h
 rename_i h1
 obtain rfl := Option.some.inj h
 exact ⟨by omega, h1.2.1, h1.2.2⟩
 cases h
theorem zd {α β : Type} {o : Option α} {f : α → Option β} {r : β} (h : o.bind f = some r) : ∃ q, o = some q ∧ f q = some r := by
 cases o with
 | none => cases h
 | some q => exact ⟨q, rfl, h⟩
theorem exK {β γ : Type} (F : β → γ) {a : β} {r : γ} (h : F a = r) : ∃ k, k = a ∧ F k = r := ⟨a, rfl, h⟩
theorem zb {α : Type} (l : List α) (i : Nat) (hi : i ≤ l.length) : (decide ((i : Int) < (l.length : Int)) = false ∧ l.drop i = [] ∧ i = l.length) ∨ ∃ q, decide ((i : Int) < (l.length : Int)) = true ∧ l.drop i = q :: l.drop (i + 1) ∧ zi l (i : Int) = some q ∧ i < l.length := by
 by_cases h : i < l.length
 exact .inr ⟨l[i], decide_eq_true oa, jY h, by rw [qdQ]; exact jq h, h⟩
 exact .inl ⟨decide_eq_false oa, j9 oa, by omega⟩
theorem zav (i n : Int) (m : Nat) (hm : m = (n - i).toNat) : (m = 0 ∧ decide (i < n) = false) ∨ ∃ m', m = m' + 1 ∧ decide (i < n) = true ∧ m' = (n - (i + 1)).toNat ∧ i < n := by
 by_cases h : i < n
 exact .inr ⟨(n - (i + 1)).toNat, by omega, decide_eq_true h, rfl, h⟩
 exact .inl ⟨by omega, decide_eq_false h⟩
theorem yT (m : Nat) : (m = 0 ∧ decide ((m : Int) - 1 ≥ 0) = false) ∨ ∃ m', m = m' + 1 ∧ decide ((m : Int) - 1 ≥ 0) = true := by
 cases m with
 | zero => exact .inl ⟨rfl, by decide⟩
 | succ k => exact .inr ⟨k, rfl, decide_eq_true oa⟩
section
variable {P : Program} {X : Env → D → St → Prop} {l : List Oper} {rest : List (Nat × Cls)} {env : Env} {σ : St} {f : FuncId} {fn : Func} {K : Ctx} {R : D → St → Prop} {k : List Item}
theorem zo {m : Md} {α : Type} (s : Nat) {b : Bool} {x y : Option α} {res : α} (hs : lk env s = some (.bool b)) (hr : (bif b then x else y) = some res) (h1 : b = true → x = some res → Run P l.toArray X (zk m P f fn K R k) rest ((s, .bool true) :: env) σ) (h2 : b = false → y = some res → Run P l.toArray X (zk m P f fn K R k) rest ((s, .bool false) :: env) σ) : Run P l.toArray X (zk m P f fn K R k) rest env σ :=
 qvq s hs (fun h => h1 h (by rw [h] at hr; exact hr)) fun h => h2 h (by rw [h] at hr; exact hr)
theorem zh {m : Md} {α : Type} (s : Nat) {b : Bool} {x y : Option α} {res : α} (hs : lk env s = some (.bool b)) (hr : (bif b then x else y) = some res) (h1 : b = true → x = some res → zk m P f fn K R k ((s, .bool true) :: env) σ) (h2 : b = false → y = some res → zk m P f fn K R k ((s, .bool false) :: env) σ) : zk m P f fn K R k env σ :=
 qtW s hs (fun h => h1 h (by rw [h] at hr; exact hr)) fun h => h2 h (by rw [h] at hr; exact hr)
theorem qq {m : Md} {id : Nat} {c : Code} (J : Env → St → Prop) (hJ : ∀ env σ, J env σ → zk m P f fn K R k env σ) (h : (∀ env σ, J env σ → zk m P f fn K R k env σ) → zk m P f fn K R (.code c :: .inBlock id :: k) env σ) : zk m P f fn K R (.code (.block id c) :: k) env σ := qy (h hJ)
end
theorem pf0 {α : Type} (l : List α) : l.Perm l := List.Perm.refl _
theorem pf1 {α : Type} (a b : α) (l : List α) : (a :: b :: l).Perm (b :: a :: l) := List.Perm.swap b a l
theorem pf2 {α : Type} (a b c : α) (l : List α) : (a :: b :: c :: l).Perm (c :: a :: b :: l) := ((pf1 b c l).cons a).trans (pf1 a c _)
theorem pf3 {α : Type} (a b c d : α) (l : List α) : (a :: b :: c :: d :: l).Perm (d :: a :: b :: c :: l) := ((pf2 b c d l).cons a).trans (pf1 a d _)
theorem pf4 {α : Type} (a b c d e : α) (l : List α) : (a :: b :: c :: d :: e :: l).Perm (e :: a :: b :: c :: d :: l) := ((pf3 b c d e l).cons a).trans (pf1 a e _)
theorem pf5 {α : Type} (a b c d e f : α) (l : List α) : (a :: b :: c :: d :: e :: f :: l).Perm (f :: a :: b :: c :: d :: e :: l) := ((pf4 b c d e f l).cons a).trans (pf1 a f _)
section
variable {P : Program} {o : Oper} {ρ : Operand → Option D} {d : D} {α : Type} {f : α → D}
theorem qCN {t e : TypeId} {x ix : Operand} {s by_ : Nat} {dx : D} (l : List α) {k : IntKind} {n : Int} {q : α} (ho : o.op = .indexAddr t x ix) (hE : ElT P t e s by_) (hx : ρ x = some dx) (hl : AsL dx (l.map f)) (hix : ρ ix = some (.int k n)) (hq : zi l n = some q) (hall : ∀ a, sz (f a) = s) (hp : (f q).plain = true) : zD P o ρ (.ptr (f q)) := by
 obtain ⟨h0, h1⟩ := qbV hq
 exact qDM n.toNat ho hE hx hl hix oa (zao h1) (zbJ hall) hp
theorem qah {x y : Operand} {t e : TypeId} {s by_ : Nat} {σ τ : St} {u : Value} (l m : List α) {r : List α} {dy : D} {n : Nat} (ho : o.op = .call { callee := .builtin .append, args := #[x, y], argTypes := #[t, t] }) (hE : ElT P t e s by_) (hx : ρ x = some (.own u (l.map f))) (hy : ρ y = some dy) (hm : AsL dy (m.map f)) (hσ : σ.Perm (.row u n e s :: τ)) (hn : n = l.length) (hall : ∀ a, sz (f a) = s) (hr : zF by_ l m = some r) :
 zC P o ρ σ fun d' σ' => ∃ u', d' = .own u' (r.map f) ∧ σ' = .row u' r.length e s :: τ := by
 obtain ⟨h1, h2, rfl⟩ := qqh hr
 have h := qBj (P := P) (o := o) (ρ := ρ) (σ := σ) (τ := τ) (u := u) (l := l.map f) (m := m.map f) ho hE hx hy hm (by rw [jb, ← hn]; exact hσ) (zbJ hall) (zbJ hall) (by simpa using h1) (by simpa using h2)
 rw [← jK, jb] at h
 exact h
theorem qjy {t e : TypeId} {x : Operand} {low high : Option Operand} {s by_ : Nat} {dx : D} (l : List α) {r : List α} (lo hi : Int) (ho : o.op = .slice t x low high none) (hE : ElT P t e s by_) (hx : ρ x = some dx) (hl : AsL dx (l.map f)) (h1 : ∀ n : Nat, (n : Int) = lo → zaV ρ low n) (h2 : ∀ n : Nat, (n : Int) = hi → zaS ρ l.length high n) (hall : ∀ a, sz (f a) = s) (hr : zZ l lo hi = some r) : zD P o ρ (.lst (r.map f)) := by
 obtain ⟨g1, g2, g3, rfl⟩ := qzY hr
 have := qEQ lo.toNat hi.toNat ho hE hx hl (h1 _ oa) (by rw [jb]; exact h2 _ oa) oa (by rw [jb]; omega) (zbJ hall)
 rwa [← List.map_take, ← List.map_drop] at this
theorem qg0 : ∀ n : Nat, (n : Int) = 0 → zaV ρ none n := fun n h => by unfold zaV; omega
theorem qnZ {x : Operand} {k : IntKind} {m : Int} (h : ρ x = some (.int k m)) : ∀ n : Nat, (n : Int) = m → zaV ρ (some x) n := fun n e => ⟨k, m, h, e.symm⟩
theorem qnV {len : Nat} : ∀ n : Nat, (n : Int) = (len : Int) → zaS ρ len none n := fun n h => by unfold zaS; omega
theorem qg7 {len : Nat} {x : Operand} {k : IntKind} {m : Int} (h : ρ x = some (.int k m)) : ∀ n : Nat, (n : Int) = m → zaS ρ len (some x) n := fun n e => ⟨k, m, h, e.symm⟩
theorem qE4 {x : Operand} {t e : TypeId} {s by_ : Nat} {dx : D} (l : List α) (ho : o.op = .call { callee := .builtin .len, args := #[x], argTypes := #[t] }) (hE : ElT P t e s by_) (hx : ρ x = some dx) (hl : AsL dx (l.map f)) : zD P o ρ (.int .i64 (l.length : Int)) := by
 have := qEV ho hE hx hl
 rwa [jb] at this
theorem quU {t e : TypeId} {x y : Operand} {s by_ : Nat} {k k' : IntKind} {a1 : Int} {r : Nat} (z : α) {σ : St} (ho : o.op = .makeSlice t x y) (hE : ElT P t e s by_) (hZ : ym P e (f z)) (hx : ρ x = some (.int k a1)) (hy : ρ y = some (.int k' a1)) (hr : zai by_ a1 = some r) :
 zC P o ρ σ fun d' σ' => ∃ b, d' = .arr b s 0 r ∧ σ' = .arr b ((List.replicate r z).map f) e s :: σ := by
 obtain ⟨rfl, h2, h3⟩ := qsL hr
 rw [List.map_replicate]
 exact qyI ho hE hZ hx rfl hy rfl h2 h3
theorem qC7 {t e : TypeId} {x y : Operand} {s by_ : Nat} {k k' : IntKind} {a1 : Int} {r : Nat} {σ : St} (ho : o.op = .makeSlice t x y) (hE : ElT P t e s by_) (hx : ρ x = some (.int k 0)) (hy : ρ y = some (.int k' a1)) (hr : zai by_ a1 = some r) :
 zC P o ρ σ fun d' σ' => ∃ u, d' = .own u (([] : List α).map f) ∧ σ' = .row u ([] : List α).length e s :: σ := by
 obtain ⟨h1, h2, h3⟩ := qsL hr
 exact qDy ho hE hx hy h1 h2 h3
theorem qet {t e : TypeId} {n s by_ : Nat} {parts : Array (Nat × Operand)} (xs : List Operand) (l : List α) (ho : o.op = .buildSlice t n parts) (hE : ElT P t e s by_) (hps : parts.toList = (xs.zipIdx 0).map fun x => (x.2, x.1)) (hn : n = xs.length) (hn0 : 0 < n) (hsm : n * s ≤ 16777216) (hO : zar ρ xs (l.map f)) (hall : ∀ a, sz (f a) = s) (hpl : ∀ a, (f a).plain = true) : zD P o ρ (.full (l.map f)) :=
 qE2 xs ho hE hps hn hn0 hsm hO (zbJ hall) fun d hd => by
  obtain ⟨a, _, rfl⟩ := jx.1 hd
  exact hpl a
theorem qyb {t e : TypeId} {x ix : Operand} {s by_ b lo n : Nat} {k : IntKind} {m : Int} {q : α} (l : List α) (ho : o.op = .indexAddr t x ix) (hE : ElT P t e s by_) (hx : ρ x = some (.arr b s lo n)) (hix : ρ ix = some (.int k m)) (hq : zi l m = some q) (hn : l.length = n) : zD P o ρ (.mref b (lo + m.toNat) s 0 []) := by
 obtain ⟨h0, h1⟩ := qbV hq
 exact qxH m.toNat ho hE hx hix oa (by rw [← hn]; exact (jt.1 h1).1)
end
/-! ### maps as lists of pairs -/
section
variable {α β : Type} [DecidableEq α]
def zt : List (α × β) → α → Option β
 | [], _ => none
 | q :: l, x => if q.1 = x then some q.2 else zt l x
def y8 : List (α × β) → α → β → List (α × β)
 | [], x, d => [(x, d)]
 | q :: l, x, d => if q.1 = x then (x, d) :: l else q :: y8 l x d
theorem quv (g : β → D) : ∀ (l : List (α × β)) (x : α), zay (l.map fun q => (q.1, g q.2)) x = (zt l x).map g
 | [], _ => rfl
 | q :: l, x => by
  simp only [jm, zay, zt]
  split
  rfl
  exact quv g l x
theorem qxw (g : β → D) : ∀ (l : List (α × β)) (x : α) (d : β), za6 (l.map fun q => (q.1, g q.2)) x (g d) = (y8 l x d).map fun q => (q.1, g q.2)
 | [], _, _ => rfl
 | q :: l, x, d => by
  simp only [jm, za6, y8]
  split
  rfl
  rw [qxw g l x d]; rfl
theorem qu2 : ∀ (l : List (α × β)) (x y : α) (d : β), zt (y8 l x d) y = if x = y then some d else zt l y
 | [], x, y, d => by simp [y8, zt]
 | q :: l, x, y, d => by
  simp only [y8]
  split
  rename_i h
  simp only [zt]
  split
  rfl
  rename_i h2; rw [if_neg (by rw [h]; exact h2)]
  rename_i h
  simp only [zt, qu2 l x y d]
  by_cases h1 : q.1 = y
  rw [if_pos h1, if_neg (fun h2 => h (h1.trans h2.symm)), if_pos h1]
  rw [if_neg h1, if_neg h1]
theorem qwd : ∀ (l : List (α × β)) (x : α) (d : β), (y8 l x d).length ≤ l.length + 1
 | [], _, _ => by simp [y8]
 | q :: l, x, d => by
  unfold y8
  split
  simp
  have := qwd l x d
  simp only [jg]
  omega
end
abbrev zw {α β : Type} (key : α → D) (g : β → D) (l : List (α × β)) : List (D × D) := l.map fun q => (key q.1, g q.2)
theorem qvY {α β : Type} (key : α → D) (g : β → D) (l : List (α × β)) : zw key g l = zbj key (l.map fun q => (q.1, g q.2)) := by simp [jI, Function.comp_def]
def zax {α β : Type} [DecidableEq α] (l : List (α × β)) (x : α) (d : β) : Option (List (α × β)) := if l.length < 9223372036854775807 then some (y8 l x d) else none
theorem qya {α β : Type} [DecidableEq α] {l r : List (α × β)} {x : α} {d : β} (h : zax l x d = some r) : l.length < 9223372036854775807 ∧ r = y8 l x d := by
 unfold zax at h
 split at h
 exact ⟨by assumption, (Option.some.inj h).symm⟩
 cases h
def zca (P : Program) (e : TypeId) (z : D) : Prop := ∃ zv, (P.info? e).map (·.zero) = some (some zv) ∧ ∀ p w, Rep p w z zv
section
variable {P : Program} {o : Oper} {ρ : Operand → Option D} {α β : Type} [DecidableEq α] {key : α → D} {g : β → D}
theorem qAj {t kt e : TypeId} {x y : Operand} {vk : α → Value} {d : Value → Prop} {r : Nat} {l : List (α × D)} {a0 : α} {z : D} {zv : Value} {σ : St} (ho : o.op = .lookup t x y false) (ht : P.underlying t = some (.map kt e)) (hK : zaG P kt key vk d) (hz : (P.info? e).map (·.zero) = some (some zv)) (hzr : ∀ p w, Rep p w z zv) (hx : ρ x = some (.map r)) (hy : ρ y = some (key a0)) (hσ : .map r (zbj key l) ∈ σ) :
 zC P o ρ σ fun d' σ' => d' = (zay l a0).getD z ∧ σ' = σ := fun K p a w hi h => by
 have h1 := h x (by rw [ho]; simp [Op.operands]) _ hx
 have h2 := hK.rep _ _ _ _ (h y (by rw [ho]; simp [Op.operands]) _ hy)
 have hgood : d (vk a0) := h2 ▸ hK.good _ _ _ _ (h y (by rw [ho]; simp [Op.operands]) _ hy)
 simp only [Rep] at h1
 obtain ⟨es, clock, g1, g2, _⟩ := hi.ok _ hσ
 obtain ⟨i, hi1, hi2⟩ := jQ.1 hz
 have hc := hK.check w es.isEmpty (vk a0) hgood
 rcases qqR hK p w a0 z l es.toList 0 g2 with ⟨q1, q2, _⟩ | ⟨j, e', dv, q1, q2, q3, q4, q5, _⟩
 · have hf := (hK.find w (vk a0) es.toList hgood (qm9 hK g2)).trans (by rw [q1])
   have hr : (execOp a.eval o).run P w = .ok (.value zv) w := by
    unfold execOp
    rw [ho]
    simp [h1, h2, Instr.lookup, run_underlying ht, MapKept.run_getObj_map g1, hc, hf, zeroValue, typeInfo, hi1, hi2]
   unfold Oper.wp
   rw [hr]
   refine ⟨_, _, _, p, rfl, ⟨rfl, rfl⟩, ?_, hi, zT.refl _ _⟩
   rw [q2]
   exact hzr p w
 · have hf := (hK.find w (vk a0) es.toList hgood (qm9 hK g2)).trans (by rw [q1])
   have hr : (execOp a.eval o).run P w = .ok (.value e'.val) w := by
    unfold execOp
    rw [ho]
    simp [h1, h2, Instr.lookup, run_underlying ht, MapKept.run_getObj_map g1, hc, hf]
   unfold Oper.wp
   rw [hr]
   refine ⟨_, _, _, p, rfl, ⟨rfl, rfl⟩, ?_, hi, zT.refl _ _⟩
   rw [q4]
   exact q5
theorem qkk {t kt e : TypeId} {x y : Operand} {vk : α → Value} {d : Value → Prop} {r : Nat} (l : List (α × β)) (a0 : α) (z : β) {σ : St} (ho : o.op = .lookup t x y false) (ht : P.underlying t = some (.map kt e)) (hK : zaG P kt key vk d) (hz : zca P e (g z)) (hx : ρ x = some (.map r)) (hy : ρ y = some (key a0)) (hσ : .map r (zw key g l) ∈ σ) :
 zC P o ρ σ fun d' σ' => d' = g ((zt l a0).getD z) ∧ σ' = σ := by
 obtain ⟨zv, h1, h2⟩ := hz
 rw [qvY] at hσ
 have := qAj ho ht hK h1 h2 hx hy hσ
 rw [quv] at this
 have e1 : ((zt l a0).map g).getD (g z) = g ((zt l a0).getD z) := by cases zt l a0 <;> rfl
 rwa [e1] at this
theorem qnW {t kt e : TypeId} {x y v : Operand} {vk : α → Value} {d : Value → Prop} {r : Nat} (l : List (α × β)) (a0 : α) (b0 : β) {l' : List (α × β)} {dn : D} {σ τ : St} (ho : o.op = .mapUpdate t x y v) (ht : P.underlying t = some (.map kt e)) (hK : zaG P kt key vk d) (hx : ρ x = some (.map r)) (hy : ρ y = some (key a0)) (hv : ρ v = some dn) (hw : Wk dn (g b0)) (hσ : σ.Perm (.map r (zw key g l) :: τ)) (hl : zax l a0 b0 = some l') :
 zC P o ρ σ fun _ σ' => σ' = .map r (zw key g l') :: τ := by
 obtain ⟨h1, rfl⟩ := qya hl
 rw [qvY] at hσ
 have := qvZ τ ho ht hK hx hy hv hw hσ (by rw [jb]; exact h1)
 rwa [qxw, ← qvY] at this
end
theorem qqO {P : Program} {o : Oper} {ρ : Operand → Option D} {α β : Type} {key : α → D} {g : β → D} {t : TypeId} {σ : St} (ho : o.op = .makeMap t none) : zC P o ρ σ fun d' σ' => ∃ r, d' = .map r ∧ σ' = .map r (zw key g ([] : List (α × β))) :: σ := qAA ho
/-! ### facts out of slots -/
section
variable {P : Program} {f : FuncId} {fn : Func} {K : Ctx} {R : D → St → Prop} {k : List Item} {env : Env} {σ : St}
theorem qqZ {m : Md} (s : Nat) (path : List Nat) {d0 dx : D} {l : List D} (hs : lk env s = some (.ptr d0)) (hp : yX d0 path = some dx) (hl : AsL dx l) (h : l.length ≤ 9223372036854775807 → zk m P f fn K R k env σ) : zk m P f fn K R k env σ :=
 qsj (fun p a w _ hr => by
  have h1 := hr s _ hs
  simp only [Rep] at h1
  obtain ⟨b, o, u, _, _, h2, _⟩ := h1
  obtain ⟨v, h3, _⟩ := qkO h2 hp
  obtain ⟨A, c, xs, _, g2, g3, _⟩ := hl.rep h3
  omega) h
theorem qCM {m : Md} (s : Nat) (path : List Nat) {d0 dx : D} {l : List D} (hs : lk env s = some d0) (hp : yX d0 path = some dx) (hl : AsL dx l) (h : l.length ≤ 9223372036854775807 → zk m P f fn K R k env σ) : zk m P f fn K R k env σ :=
 qsj (fun p a w _ hr => by
  obtain ⟨v, h3, _⟩ := qkO (hr s _ hs) hp
  obtain ⟨A, c, xs, _, g2, g3, _⟩ := hl.rep h3
  omega) h
theorem qr7 {m : Md} (s : Nat) {d d' : D} (hs : lk env s = some d) (hd : d = d') (h : zk m P f fn K R k ((s, d') :: env) σ) : zk m P f fn K R k env σ := by
 subst hd
 refine qoq _ env σ (fun t => ?_) h
 rw [qiY]
 split
 rename_i h; subst h; exact hs.symm
 rfl
theorem qox {m : Md} (e : TypeId) (s : Nat) (h : zk m P f fn K R k env (.row (.slice none 0 0) ([] : List D).length e s :: σ)) : zk m P f fn K R k env σ := fun p a w hi =>
 h p a w (hi.more ⟨⟨[], World.ownsRow_nil w 0 e s⟩, fun g hg => by simp [Value.ownBlock] at hg⟩ (fun b hb => by simp [Ob.blk, Value.ownBlock] at hb))
theorem qob {m : Md} {E : Env} {S : St} (hs : Sub E env) (hp : σ.Perm S) (h : zk m P f fn K R k E S) : zk m P f fn K R k env σ := quB E hs (qbA S [] (by simpa using hp) h)
theorem qqs {m : Md} {a b : Code} (J : Env → St → Prop) (hJ : ∀ env σ, J env σ → zk m P f fn K R (.code b :: k) env σ) (h : (∀ env σ, J env σ → zk m P f fn K R (.code b :: k) env σ) → zk m P f fn K R (.code a :: .code b :: k) env σ) : zk m P f fn K R (.code (.seq a b) :: k) env σ := qai (h hJ)
theorem y7 {X : Env → D → St → Prop} {Q : Env → St → Prop} {l : List Oper} {rest : List (Nat × Cls)} (σ' : St) (hs : σ = σ') (h : Run P l.toArray X Q rest env σ') : Run P l.toArray X Q rest env σ := hs ▸ h
end
def zab (n : Int) : Option Nat := if -1 ≤ n then some (n + 1).toNat else none
theorem qlZ {n : Int} {m : Nat} (h : zab n = some m) : n = (m : Int) - 1 := by
 unfold zab at h
 split at h
 have := Option.some.inj h; omega
 cases h
section
variable {P : Program} {o : Oper} {ρ : Operand → Option D} {d : D}
theorem qBO {t : TypeId} {x : Operand} {k : IntKind} {m : Int} (ho : o.op = .unOp .neg t x) (hx : ρ x = some (.int k m)) : zD P o ρ (.int k (k.wrap (-m))) := qeF fun p a w h => by
 have h1 := h x (by rw [ho]; simp [Op.operands]) _ hx
 simp only [Rep] at h1
 refine ⟨.int k (k.wrap (-m)), ?_, by simp only [Rep]; exact ⟨trivial, qos k _⟩⟩
 unfold execOp
 rw [ho]
 simp [h1.1, Op.unary, Op.intArith]
theorem qD0 {t t' : TypeId} {x y : Operand} {m n : Int} (ho : o.op = .binOp .quo t x y t') (hx : ρ x = some (.int .i64 m)) (hy : ρ y = some (.int .i64 n)) (hn : n ≠ 0) : zD P o ρ (.int .i64 (wr (Int.tdiv m n))) := qeF fun p a w h => by
 have h1 := h x (by rw [ho]; simp [Op.operands]) _ hx
 have h2 := h y (by rw [ho]; simp [Op.operands]) _ hy
 simp only [Rep] at h1 h2
 refine ⟨.int .i64 (wr (Int.tdiv m n)), ?_, by simp only [Rep]; exact ⟨trivial, qos _ _⟩⟩
 unfold execOp
 rw [ho]
 simp only [h1.1, h2.1]
 simp [binOp, eqGuard, Op.intDiv, hn, wr]
def zX (m n : Int) : Int := if n < m then n else m
def yd (m n : Int) : Int := if n > m then n else m
theorem qkL (m n : Int) : zX m n = min m n := by unfold zX; omega
theorem qpR (m n : Int) : yd m n = max m n := by unfold yd; omega
theorem qAR {t t' : TypeId} {x y : Operand} {m n : Int} (ho : o.op = .call { callee := .builtin .min, args := #[x, y], argTypes := #[t, t'] }) (hx : ρ x = some (.int .i64 m)) (hy : ρ y = some (.int .i64 n)) : zD P o ρ (.int .i64 (zX m n)) := qeF fun p a w h => by
 have h1 := h x (by rw [ho]; simp [Op.operands, Call.operands]) _ hx
 have h2 := h y (by rw [ho]; simp [Op.operands, Call.operands]) _ hy
 simp only [Rep] at h1 h2
 refine ⟨.int .i64 (zX m n), ?_, by simp only [Rep]; exact ⟨trivial, by unfold zX; split; exact h2.2; exact h1.2⟩⟩
 unfold execOp
 rw [ho]
 simp [resolve, invoke, builtin, h1.1, h2.1, Builtin.min_, Builtin.min2, zX]
theorem qDA {t t' : TypeId} {x y : Operand} {m n : Int} (ho : o.op = .call { callee := .builtin .max, args := #[x, y], argTypes := #[t, t'] }) (hx : ρ x = some (.int .i64 m)) (hy : ρ y = some (.int .i64 n)) : zD P o ρ (.int .i64 (yd m n)) := qeF fun p a w h => by
 have h1 := h x (by rw [ho]; simp [Op.operands, Call.operands]) _ hx
 have h2 := h y (by rw [ho]; simp [Op.operands, Call.operands]) _ hy
 simp only [Rep] at h1 h2
 refine ⟨.int .i64 (yd m n), ?_, by simp only [Rep]; exact ⟨trivial, by unfold yd; split; exact h2.2; exact h1.2⟩⟩
 unfold execOp
 rw [ho]
 simp [resolve, invoke, builtin, h1.1, h2.1, Builtin.max_, Builtin.max2, yd]
theorem qM {x : Operand} {b off : Nat} {path : List Nat} (ho : o.op = .nilCheck x) (hx : ρ x = some (.ref b off path)) : zD P o ρ (.ref b off path) := qeF fun p a w h => by
 have h1 := h x (by rw [ho]; simp [Op.operands]) _ hx
 refine ⟨a.eval x, ?_, h1⟩
 simp only [Rep] at h1
 unfold execOp
 rw [ho]
 simp [h1]
end
def zam {V R : Type} (F : V → Option R) : R ⊕ V → Option R
 | .inl r => some r
 | .inr v => F v
def zU {Q V R : Type} (B : Q → V → Option (R ⊕ V)) (k : V → Option R) : List Q → V → Option R
 | [], v => k v
 | q :: l, v => (B q v).bind (zam (zU B k l))
open Classical in
noncomputable def zbr {Q R : Type} (F : List Q → Option R) (l : List Q) : Option R := if ∀ l' : List Q, l'.Perm l → F l' = F l then F l else none
theorem qz9 {Q R : Type} {F : List Q → Option R} {l : List Q} {r : R} (h : zbr F l = some r) : ∀ l' : List Q, l'.Perm l → F l' = some r := by
 unfold zbr at h
 split at h
 rename_i h1
 exact fun l' hp => (h1 l' hp).trans h
 cases h
theorem qtQ {Q R : Type} {F : List Q → Option R} {l : List Q} {r : R} (h : ∀ l' : List Q, l'.Perm l → F l' = some r) : zbr F l = some r := by
 have h0 := h l (.refl _)
 unfold zbr
 rw [if_pos fun l' hp => (h l' hp).trans h0.symm]
 exact h0
theorem zb3 {Q V R : Type} {B : Q → V → Option (R ⊕ V)} {k : V → Option R} {q : Q} {L l : List Q} {v : V} {r : R} (hp : L.Perm (q :: l)) (h : ∀ l' : List Q, l'.Perm L → zU B k l' v = some r) : ∃ z, B q v = some z ∧ ∀ l' : List Q, l'.Perm l → zam (zU B k l') z = some r := by
 have h1 : ∀ l' : List Q, l'.Perm l → zU B k (q :: l') v = some r := fun l' hl => h (q :: l') ((hl.cons q).trans hp.symm)
 obtain ⟨z, hz, _⟩ := zd (show (B q v).bind (zam (zU B k l)) = some r from h1 l (.refl _))
 refine ⟨z, hz, fun l' hl => ?_⟩
 have h2 : (B q v).bind (zam (zU B k l')) = some r := h1 l' hl
 rw [hz] at h2
 exact h2
theorem mapEnd {Q V R : Type} {B : Q → V → Option (R ⊕ V)} {k : V → Option R} {L : List Q} {v : V} {r : R} (hp : L = []) (h : ∀ l' : List Q, l'.Perm L → zU B k l' v = some r) : k v = some r := by
 subst hp
 exact h [] (.refl _)
theorem mapOut {Q R V : Type} {B : Q → V → Option (R ⊕ V)} {k : V → Option R} {L : List Q} {x : Option R} {z : R ⊕ V} {r : R} (h : ∀ l' : List Q, l'.Perm L → zam (zU B k l') z = some r) (hx : x.map Sum.inl = some z) : x = some r := by
 cases x with
 | none => cases hx
 | some y =>
  obtain rfl := Option.some.inj hx
  exact h L (.refl _)
theorem zbp {Q R V : Type} {B : Q → V → Option (R ⊕ V)} {k : V → Option R} {L : List Q} {v : V} {z : R ⊕ V} {r : R} (h : ∀ l' : List Q, l'.Perm L → zam (zU B k l') z = some r) (hx : some (Sum.inr v) = some z) : ∀ l' : List Q, l'.Perm L → zU B k l' v = some r := by
 obtain rfl := Option.some.inj hx
 exact h
def zaE {Q : Type} (es : Array MapEntry) (seen : Array Nat) (l : List Q) : List Q := ((es.toList.zip l).filter fun x => !seen.contains x.1.born).map (·.2)
def CurE {Q : Type} (es : Array MapEntry) (l : List Q) (e : MapEntry) (q : Q) : Prop := ∃ i : Nat, es.toList[i]? = some e ∧ l[i]? = some q
theorem qvw {Q : Type} {es : Array MapEntry} {l : List Q} (h : es.size = l.length) : zaE es #[] l = l := by
 unfold zaE
 rw [vY.2 (fun x _ => by simp)]
 rw [List.map_snd_zip]
 simp [← h]
theorem qqq {p : Addr → Prop} {w : World} : ∀ {kv : List (D × D)} {es : List MapEntry}, z5 p w kv es → es.length = kv.length
 | [], _, h => by simp only [z5] at h; subst h; rfl
 | (k, d) :: kv, es, h => by
  simp only [z5] at h
  obtain ⟨e, rest, rfl, _, _, h3⟩ := h
  simp [qqq h3]
theorem qtK {p : Addr → Prop} {w : World} : ∀ {kv : List (D × D)} {es : List MapEntry} {i : Nat} {e : MapEntry} {k d : D}, z5 p w kv es → es[i]? = some e → kv[i]? = some (k, d) → Rep p w k e.key ∧ Rep p w d e.val
 | [], _, i, _, _, _, _, _, h => by cases i <;> cases h
 | (k, d) :: kv, es, i, e, k', d', h, h1, h2 => by
  simp only [z5] at h
  obtain ⟨e0, rest, rfl, g1, g2, g3⟩ := h
  cases i with
  | zero =>
   simp only [vJ, Option.some.injEq, Prod.mk.injEq] at h1 h2
   obtain ⟨rfl, rfl⟩ := h2
   subst h1
   exact ⟨g1, g2⟩
  | succ i =>
   simp only [v8] at h1 h2
   exact qtK g3 h1 h2
theorem qqf {a : Array Nat} {x y : Nat} : (a.push x).contains y = (a.contains y || decide (y = x)) := by
 rw [jO]
 simp [Array.mem_push]
theorem qsq {Q : Type} : ∀ (es : List MapEntry) (l : List Q) (seen : Array Nat) (i : Nat) (e : MapEntry) (q : Q), (es.map (·.born)).Nodup → es[i]? = some e → l[i]? = some q → seen.contains e.born = false →
 (((es.zip l).filter fun x => !seen.contains x.1.born).map (·.2)).Perm (q :: ((es.zip l).filter fun x => !(seen.push e.born).contains x.1.born).map (·.2))
 | [], _, _, i, _, _, _, h, _, _ => by cases i <;> cases h
 | _ :: _, [], _, i, _, _, _, _, h, _ => by cases i <;> cases h
 | a :: es, b :: l, seen, i, e, q, hn, h1, h2, h3 => by
  simp only [jm, jP] at hn
  simp only [List.zip_cons_cons]
  cases i with
  | zero =>
   simp only [vJ, Option.some.injEq] at h1 h2
   subst h1 h2
   rw [Jd (by rw [h3]; rfl), vK og]
   have : (es.zip l).filter (fun x => !seen.contains x.1.born) = (es.zip l).filter (fun x => !(seen.push a.born).contains x.1.born) := List.filter_congr fun x hx => by
    have hne : x.1.born ≠ a.born := fun e => hn.1 (e ▸ jF (f := (·.born)) (List.of_mem_zip (show (x.1, x.2) ∈ es.zip l from hx)).1)
    rw [qqf, decide_eq_false hne, Bool.or_false]
   rw [jm, this]
  | succ i =>
   simp only [v8] at h1 h2
   have ih := qsq es l seen i e q hn.2 h1 h2 h3
   have hne : a.born ≠ e.born := fun he => hn.1 (he ▸ jF (f := (·.born)) (List.mem_of_getElem? h1))
   cases hs : seen.contains a.born with
   | true =>
    rw [vK (by rw [hs]; decide), vK (by rw [qqf, hs]; simp)]
    exact ih
   | false =>
    rw [Jd (by rw [hs]; rfl), Jd (by rw [qqf, hs, decide_eq_false hne]; rfl)]
    exact (ih.cons b).trans (List.Perm.swap q b _)
section
variable {P : Program} {o : Oper} {ρ : Operand → Option D} {α β : Type} {key : α → D} {g : β → D}
theorem qDD {t kt e : TypeId} {x : Operand} {r : Nat} {l : List (α × β)} {σ τ : St} (ho : o.op = .range t x) (ht : P.underlying t = some (.map kt e)) (hx : ρ x = some (.map r)) (hσ : σ.Perm (.map r (zw key g l) :: τ)) :
 zC P o ρ σ fun d' σ' => ∃ b es cl, d' = .ref b 0 [] ∧ σ' = .iter b r cl #[] cl :: .mapE r (zw key g l) es cl :: τ ∧ es.size = l.length := fun K p a w hi h => by
 have h1 := h x (by rw [ho]; simp [Op.operands]) _ hx
 simp only [Rep] at h1
 have hi' := hi.perm hσ
 obtain ⟨es, cl, g1, g2, g3, g4, g5⟩ := hi'.ok _ (jd ..)
 have hr : (execOp a.eval o).run P w = .ok (.value (.pointer (some ⟨w.heap.size, 0, none⟩))) (w.alloc (.mapIter (some r) cl #[] cl)) := by
  unfold execOp
  rw [ho]
  simp [h1, run_range_map w t kt e r es cl ht g1]
 unfold Oper.wp
 rw [hr]
 have hi2 : Inv K p (.mapE r (zw key g l) es cl :: τ) w := ⟨fun o' ho' => by
  rcases jh.1 ho' with rfl | ho'
  exact ⟨g1, g2, g3, g4, g5⟩
  exact hi'.ok _ (jf _ ho'), hi'.nd, hi'.mine, hi'.pub, hi'.gr, hi'.neu, hi'.os, hi'.tape, hi'.output, hi'.size, hi'.block⟩
 refine ⟨_, .ref w.heap.size 0 [], _, p, rfl, ⟨w.heap.size, es, cl, rfl, rfl, ?_⟩, by simp only [Rep], ?_, qgy hi.pub _⟩
 · have := qqq g2
   simpa using this
 refine (hi2.alloc _).more (heap_alloc_new w _) fun b hb => ?_
 simp only [Ob.blk, Option.some.injEq] at hb
 subst hb
 exact ⟨.inl hi.size, fun hm => by have := hi2.lt hm; omega⟩
theorem quy {K : Ctx} {p : Addr → Prop} {w : World} {τ : St} {b r c : Nat} {seen : Array Nat} {last : Nat} {kv : List (D × D)} {es : Array MapEntry} {cl : Nat} (hi : Inv K p (.iter b r c seen last :: .mapE r kv es cl :: τ) w) : Inv K p (.map r kv :: τ) w :=
 let hi' := hi.tail
 ⟨fun o' ho' => by
  rcases jh.1 ho' with rfl | ho'
  obtain ⟨g1, g2, g3, g4, g5⟩ := hi'.ok _ (jd ..)
  exact ⟨es, cl, g1, g2, g3, g4, g5⟩
  exact hi'.ok _ (jf _ ho'), hi'.nd, hi'.mine, hi'.pub, hi'.gr, hi'.neu, hi'.os, hi'.tape, hi'.output, hi'.size, hi'.block⟩
theorem qEc {x : Operand} {b r cl last : Nat} {seen : Array Nat} {es : Array MapEntry} {l : List (α × β)} {σ τ : St} (ho : o.op = .next x false) (hx : ρ x = some (.ref b 0 [])) (hσ : σ.Perm (.iter b r cl seen last :: .mapE r (zw key g l) es cl :: τ)) (hl : cl ≤ last) :
 zC P o ρ σ fun d' σ' => (zaE es seen l = [] ∧ d' = .tup [.bool false] ∧ σ' = .map r (zw key g l) :: τ) ∨ ∃ (q : α × β) (e : MapEntry), (zaE es seen l).Perm (q :: zaE es (seen.push e.born) l) ∧ CurE es l e q ∧ d' = .tup [.bool true, key q.1, g q.2] ∧ σ' = .iter b r cl (seen.push e.born) cl :: .mapE r (zw key g l) es cl :: τ := fun K p a w hi h => by
 have h1 := h x (by rw [ho]; simp [Op.operands]) _ hx
 simp only [Rep] at h1
 have hi' := hi.perm hσ
 have i1 : w.heap[b]? = some (.mapIter (some r) cl seen last) := hi'.ok _ (jd ..)
 obtain ⟨g1, g2, g3, g4, g5⟩ := hi'.ok _ (jf _ (jd ..))
 have hlen := qqq g2
 rcases run_next_at (P := P) w o.type b r cl last seen es cl i1 g1 g5 hl with ⟨e0, hr⟩ | ⟨e, he, w1, hw1, hr⟩
 · have hr' : (execOp a.eval o).run P w = .ok (.value (.tuple #[.bool false])) w := by
    unfold execOp
    rw [ho]
    simp [h1, hr]
   unfold Oper.wp
   rw [hr']
   refine ⟨_, .tup [.bool false], _, p, rfl, .inl ⟨?_, rfl, rfl⟩, ?_, quy hi', zT.refl _ _⟩
   · unfold zaE
     unfold leftOf at e0
     have e1 : es.filter (fun e => !seen.contains e.born) = #[] := Array.eq_empty_of_size_eq_zero e0
     rw [Array.filter_eq_empty_iff] at e1
     rw [List.map_eq_nil_iff, List.filter_eq_nil_iff]
     intro x hx
     exact e1 x.1 (by simpa using (List.of_mem_zip (show (x.1, x.2) ∈ es.toList.zip l from hx)).1)
   · simp only [Rep, zH]
     exact ⟨[.bool false], rfl, _, _, rfl, rfl, rfl⟩
 · have hr' : (execOp a.eval o).run P w = .ok (.value (.tuple #[.bool true, e.key, e.val])) (ChangeMaps.setBlock w1 b (.mapIter (some r) cl (seen.push e.born) cl)) := by
    unfold execOp
    rw [ho]
    simp [h1, hr]
   unfold Oper.wp
   rw [hr']
   have he' : e ∈ es.toList ∧ seen.contains e.born = false := by
    unfold leftOf at he
    simpa using he
   obtain ⟨i, hi1⟩ := List.getElem?_of_mem he'.1
   have hil : i < l.length := by
    have := (jt.1 hi1).1
    simp only [jb] at hlen
    omega
   have hq : l[i]? = some l[i] := jq hil
   obtain ⟨rk, rv⟩ := qtK (k := key l[i].1) (d := g l[i].2) g2 hi1 (by simp [zw, hq])
   have hiw : Inv K p (.iter b r cl seen last :: .mapE r (zw key g l) es cl :: τ) w1 ∧ zT p w p w1 := by
    rcases hw1 with rfl | rfl
    · exact ⟨hi', zT.refl _ _⟩
    · exact ⟨hi'.drew, qhs p w⟩
   have j1 : w1.heap[b]? = some (.mapIter (some r) cl seen last) := hiw.1.ok _ (jd ..)
   have hset := MapKept.heap_set (o' := .mapIter (some r) cl (seen.push e.born) cl) j1
   have gr : zT p w1 p (ChangeMaps.setBlock w1 b (.mapIter (some r) cl (seen.push e.born) cl)) := fun a' ha => ⟨ha, qju (hset.2 _ (by
    intro e'
    obtain ⟨u, hu⟩ := hiw.1.pub a' ha
    unfold World.cell? at hu
    rw [e', j1] at hu
    cases hu))⟩
   have g' := hiw.2.tr gr
   refine ⟨_, .tup [.bool true, key l[i].1, g l[i].2], _, p, rfl, .inr ⟨l[i], e, qsq es.toList l seen i e l[i] g4 hi1 hq he'.2, ⟨i, hi1, hq⟩, rfl, rfl⟩, ?_, ?_, g'⟩
   · simp only [Rep, zH]
     exact ⟨[.bool true, e.key, e.val], rfl, .bool true, _, rfl, rfl, e.key, _, rfl, rk.grow g', e.val, _, rfl, rv.grow g', rfl⟩
   · refine hiw.1.write (b := b) rfl rfl gr (fun a' ha => .inl ha) hset.1 (fun a' ha => ?_) rfl rfl rfl (by simp [ChangeMaps.setBlock]) fun k hk => hset.2 k hk
     obtain ⟨u, hu⟩ := hiw.1.pub a' ha
     exact ⟨u, by rw [(gr a' ha).2]; exact hu⟩
theorem qCY {x : Operand} {b r cl : Nat} {seen : Array Nat} {es : Array MapEntry} {l : List (α × β)} {q : α × β} {e : MapEntry} {σ : St} (ho : o.op = .entry x) (hx : ρ x = some (.ref b 0 [])) (h1 : .iter b r cl (seen.push e.born) cl ∈ σ) (h2 : .mapE r (zw key g l) es cl ∈ σ) (hc : CurE es l e q) :
 zC P o ρ σ fun d' σ' => d' = .tup [key q.1, g q.2] ∧ σ' = σ := fun K p a w hi h => by
 have h3 := h x (by rw [ho]; simp [Op.operands]) _ hx
 simp only [Rep] at h3
 have i1 : w.heap[b]? = some (.mapIter (some r) cl (seen.push e.born) cl) := hi.ok _ h1
 obtain ⟨g1, g2, g3, g4, g5⟩ := hi.ok _ h2
 obtain ⟨i, c1, c2⟩ := hc
 have hr : (execOp a.eval o).run P w = .ok (.value (.tuple #[e.key, e.val])) w := by
  unfold execOp
  rw [ho]
  simp [h3, run_entry_at (P := P) w b r cl seen es cl e i1 g1 (List.mem_of_getElem? c1) g4]
 obtain ⟨rk, rv⟩ := qtK (k := key q.1) (d := g q.2) g2 c1 (by simp [zw, c2])
 unfold Oper.wp
 rw [hr]
 refine ⟨_, _, _, p, rfl, ⟨rfl, rfl⟩, ?_, hi, zT.refl _ _⟩
 simp only [Rep, zH]
 exact ⟨[e.key, e.val], rfl, e.key, _, rfl, rk, e.val, _, rfl, rv, rfl⟩
end
section
variable {P : Program} {f : FuncId} {fn : Func} {K : Ctx} {R : D → St → Prop} {k : List Item} {env : Env} {σ τ : St}
theorem qxM {m : Md} {b r c : Nat} {seen : Array Nat} {last : Nat} {kv : List (D × D)} {es : Array MapEntry} {cl : Nat} (hσ : σ.Perm (.iter b r c seen last :: .mapE r kv es cl :: τ)) (h : zk m P f fn K R k env (.map r kv :: τ)) : zk m P f fn K R k env σ := fun p a w hi hr => h p a w (quy (hi.perm hσ)) hr
end
/-! ### lists that are appended to and written -/
section
variable {P : Program} {o : Oper} {ρ : Operand → Option D} {α : Type} {f : α → D}
theorem qBL {x y : Operand} {t e : TypeId} {s by_ n : Nat} {σ τ : St} {u : Value} (l m : List α) {r : List α} {dy : D} (ho : o.op = .call { callee := .builtin .append, args := #[x, y], argTypes := #[t, t] }) (hE : ElT P t e s by_) (hx : ρ x = some (.vec u n)) (hy : ρ y = some dy) (hm : AsL dy (m.map f)) (hσ : σ.Perm (.vec u (l.map f) e s :: τ)) (hall : ∀ a, sz (f a) = s) (hr : zF by_ l m = some r) :
 zC P o ρ σ fun d' σ' => ∃ u', d' = .vec u' r.length ∧ σ' = .vec u' (r.map f) e s :: τ := by
 obtain ⟨h1, h2, rfl⟩ := qqh hr
 have h := qB4 (P := P) (o := o) (ρ := ρ) (σ := σ) (τ := τ) (u := u) (l := l.map f) (m := m.map f) ho hE hx hy hm hσ (zbJ hall) (by simpa using h1) (by simpa using h2)
 rw [← jK, jb] at h
 exact h
theorem qgg {t e : TypeId} {x ix : Operand} {s by_ n : Nat} {u : Value} {k : IntKind} {m : Int} {q : α} {σ : St} (l : List α) (ho : o.op = .indexAddr t x ix) (hE : ElT P t e s by_) (hx : ρ x = some (.vec u n)) (hix : ρ ix = some (.int k m)) (hq : zi l m = some q) (hσ : .vec u (l.map f) e s ∈ σ) : zC P o ρ σ fun d' σ' => d' = .mref (zbg u) m.toNat s 0 [] ∧ σ' = σ := by
 obtain ⟨h0, h1⟩ := qbV hq
 exact qyj m.toNat ho hE hx hix oa (by rw [jb]; exact (jt.1 h1).1) hσ
end
theorem subT3 (t : T) : yX (zl t) [3] = some (.lst (t.ar.map zl)) := by
 simp [yX, zl, qfk]
section
variable {P : Program} {f : FuncId} {fn : Func} {K : Ctx} {R : D → St → Prop} {k : List Item} {env : Env} {σ : St}
theorem qw7 {m : Md} {b : Nat} (path : List Nat) {d0 dx : D} {l : List D} (hσ : .cell b d0 ∈ σ) (hp : yX d0 path = some dx) (hl : AsL dx l) (h : l.length ≤ 9223372036854775807 → zk m P f fn K R k env σ) : zk m P f fn K R k env σ :=
 qsj (fun p a w hi _ => by
  obtain ⟨v0, ty, h1, _⟩ := hi.ok _ hσ
  obtain ⟨v, h3, _⟩ := qkO h1 hp
  obtain ⟨A, c, xs, _, g2, g3, _⟩ := hl.rep h3
  omega) h
end
theorem ifS {α : Type} {c : Prop} [Decidable c] {a b : α} (h : (if c then some a else none) = some b) : c ∧ a = b := by
 split at h
 exact ⟨by assumption, Option.some.inj h⟩
 cases h
noncomputable def qkN (t : T) : Option (Bool) := if wt t ≤ 1000000000 then some (zN t) else none
theorem qji (t : T) (h : wt t ≤ 1000000000) : qkN t = some (zN t) := if_pos h
theorem qd7 (t : T) (res : Bool) (h : qkN t = some res) : zf Tryz.prog 95 [zl t] (.bool res) := by
 obtain ⟨h1, rfl⟩ := ifS h
 exact qv9 1000000000 (jk _) t h1
noncomputable def qm6 (t : T) (u : T) : Option (Bool) := if wt t ≤ 1000000000 then some (yV t u) else none
theorem qsh (t : T) (u : T) (h : wt t ≤ 1000000000) : qm6 t u = some (yV t u) := if_pos h
theorem qfK (t : T) (u : T) (res : Bool) (h : qm6 t u = some res) : zf Tryz.prog 184 [zl t, zl u] (.bool res) := by
 obtain ⟨h1, rfl⟩ := ifS h
 exact qx7 1000000000 (jk _) t u h1
noncomputable def qj0 (a : At) : Option (Bool) := if wtL a.ts ≤ 1000000000 then some (zA a) else none
theorem qh4 (a : At) (h : wtL a.ts ≤ 1000000000) : qj0 a = some (zA a) := if_pos h
theorem qoL (a : At) (res : Bool) (h : qj0 a = some res) : zf Tryz.prog 100 [zY a] (.bool res) := by
 obtain ⟨h1, rfl⟩ := ifS h
 exact qoJ 1000000000 (jk _) a h1
theorem qdM (a : At) (res : Bool) (h : qj0 a = some res) : zf Tryz.prog 47 [zY a] (.bool res) := by
 obtain ⟨h1, rfl⟩ := ifS h
 exact qq2 1000000000 (jk _) a h1
noncomputable def qjW (a : Gl) : Option (Bool) := if wtL a.ts ≤ 1000000000 then some (zy a) else none
theorem qh5 (a : Gl) (h : wtL a.ts ≤ 1000000000) : qjW a = some (zy a) := if_pos h
theorem qcy (a : Gl) (res : Bool) (h : qjW a = some res) : zf Tryz.prog 22 [zE a] (.bool res) := by
 obtain ⟨h1, rfl⟩ := ifS h
 exact qqC 1000000000 (jk _) a h1
noncomputable def qvo (a : Gl) (b : Gl) : Option (Bool) := if wtL a.ts ≤ 1000000000 then some (zad a b) else none
theorem qx4 (a : Gl) (b : Gl) (h : wtL a.ts ≤ 1000000000) : qvo a b = some (zad a b) := if_pos h
theorem qke (a : Gl) (b : Gl) (res : Bool) (h : qvo a b = some res) : zf Tryz.prog 168 [zE a, zE b] (.bool res) := by
 obtain ⟨h1, rfl⟩ := ifS h
 exact qrH 1000000000 (jk _) a b h1
noncomputable def qm7 (s : ByteArray) : Option (Bool) := if s.size ≤ 9223372036854775807 then some (zO s) else none
theorem qis (s : ByteArray) (res : Bool) (h : qm7 s = some res) : zf Tryz.prog 17 [.str s] (.bool res) := by
 obtain ⟨h1, rfl⟩ := ifS h
 exact qv3 s h1
noncomputable def qp9 (a : At) : Option (List Int) := if wtL a.ts ≤ 1000000000 then some (yj [] (zu a.ts)) else none
theorem qsO (a : At) (h : wtL a.ts ≤ 1000000000) : qp9 a = some (yj [] (zu a.ts)) := if_pos h
theorem qjG (a : At) (res : List Int) (h : qp9 a = some res) : zf Tryz.prog 64 [zY a] (encI res) := by
 obtain ⟨h1, rfl⟩ := ifS h
 exact qpq 1000000000 (jk _) a h1
noncomputable def qsT (t : T) : Option (Int) := if wt t ≤ 1000000000 then some (((zp t : Nat) : Int)) else none
theorem qsB (t : T) (h : wt t ≤ 1000000000) : qsT t = some (((zp t : Nat) : Int)) := if_pos h
theorem qiM (t : T) (res : Int) (h : qsT t = some res) : zf Tryz.prog 58 [zl t] (.int .i64 res) := by
 obtain ⟨h1, rfl⟩ := ifS h
 exact qx1 1000000000 (jk _) t h1
def zn (x : Int × At) : D := .agg [.int .i64 x.1, zY x.2]
theorem qeW (a : At) : sz (zY a) = 2 := rfl
theorem qcW (a : Gl) : sz (zE a) = 3 := rfl
theorem qg3 (x : Int × At) : sz (zn x) = 3 := rfl
theorem qxB (n : Int) : -9223372036854775808 ≤ wr n ∧ wr n < 9223372036854775808 := by
 unfold wr
 simp only [IntKind.wrap, IntKind.bits, IntKind.signed]
 simp
 omega
inductive Wks : List D → List D → Prop
 | nil : Wks [] []
 | cons {d e : D} {ds es : List D} (h : Wk d e) (k : Wks ds es) : Wks (d :: ds) (e :: es)
theorem Wks.reps {ds es : List D} (h : Wks ds es) : ∀ {p : Addr → Prop} {w : World} {xs : List Value}, zz p w ds xs → zz p w es xs := by
 induction h with
 | nil => exact fun h => h
 | cons h _ ih =>
  intro p w xs hr
  simp only [zz] at hr ⊢
  obtain ⟨v, rest, h1, h2, h3⟩ := hr
  exact ⟨v, rest, h1, h _ _ _ h2, ih h3⟩
theorem Wk.agg {ds es : List D} (h : Wks ds es) : Wk (.agg ds) (.agg es) := fun p w v hv => by
 simp only [Rep] at hv ⊢
 obtain ⟨cs, h1, h2, h3⟩ := hv
 exact ⟨cs, h1, h.reps h2, h3⟩
inductive Ins (d0 : D) : D → Prop
 | refl : Ins d0 d0
 | ptr {d : D} (h : Ins d0 (.ptr d)) : Ins d0 d
 | sub {d dx : D} (h : Ins d0 d) (path : List Nat) (hp : yX d path = some dx) : Ins d0 dx
 | el {d dx : D} {l : List D} (h : Ins d0 d) (hl : AsL d l) (hm : dx ∈ l) : Ins d0 dx
theorem qwr {p : Addr → Prop} {w : World} : ∀ {l : List D} {xs : List Value}, zz p w l xs → ∀ d ∈ l, ∃ v, Rep p w d v
 | [], _, _, _, h => by cases h
 | d :: l, xs, h, x, hx => by
  simp only [zz] at h
  obtain ⟨v, rest, _, h1, h2⟩ := h
  rcases jh.1 hx with rfl | hx
  exact ⟨v, h1⟩
  exact qwr h2 x hx
theorem qDx {p : Addr → Prop} {w : World} {d0 dx : D} {v0 : Value} (h0 : Rep p w d0 v0) (h : Ins d0 dx) : ∃ v, Rep p w dx v := by
 induction h with
 | refl => exact ⟨v0, h0⟩
 | ptr _ ih =>
  obtain ⟨v, hv⟩ := ih
  simp only [Rep] at hv
  obtain ⟨b, o, u, _, _, h2, _⟩ := hv
  exact ⟨u, h2⟩
 | sub _ path hp ih =>
  obtain ⟨v, hv⟩ := ih
  obtain ⟨u, h3, _⟩ := qkO hv hp
  exact ⟨u, h3⟩
 | el _ hl hm ih =>
  obtain ⟨v, hv⟩ := ih
  obtain ⟨A, c, xs, _, _, _, _, h4, _⟩ := hl.rep hv
  exact qwr h4 _ hm
theorem qh7 {P : Program} {o : Oper} {ρ : Operand → Option D} {α : Type} {t e : TypeId} {x ix : Operand} {s by_ b n : Nat} {k : IntKind} {m : Int} {q : α} (l : List α) (ho : o.op = .indexAddr t x ix) (hE : ElT P t e s by_) (hx : ρ x = some (.arr b s 0 n)) (hix : ρ ix = some (.int k m)) (hq : zi l m = some q) (hn : l.length = n) : zD P o ρ (.mref b m.toNat s 0 []) := by
 have := qyb l ho hE hx hix hq hn
 rwa [ju] at this
theorem qfM {α : Type} {l : List α} {i : Int} {q : α} (h : zi l i = some q) : q ∈ l := List.mem_of_getElem? (qbV h).2
section
variable {P : Program} {f : FuncId} {fn : Func} {K : Ctx} {R : D → St → Prop} {k : List Item} {env : Env} {σ : St}
theorem qEJ {m : Md} (s : Nat) {d0 dx : D} {l : List D} (hs : lk env s = some d0) (hi : Ins d0 dx) (hl : AsL dx l) (h : l.length ≤ 9223372036854775807 → zk m P f fn K R k env σ) : zk m P f fn K R k env σ :=
 qsj (fun p a w _ hr => by
  obtain ⟨v, h3⟩ := qDx (hr s _ hs) hi
  obtain ⟨A, c, xs, _, g2, g3, _⟩ := hl.rep h3
  omega) h
end
theorem Inv.of {K K' : Ctx} {p : Addr → Prop} {σ : St} {w : World} (h0 : K'.w0 = K.w0) (hp : K'.p0 = K.p0) (hF : K'.F0 = K.F0) (h : Inv K p σ w) : Inv K' p σ w := by
 obtain ⟨w0, p0, F0, X⟩ := K
 obtain ⟨w0', p0', F0', X'⟩ := K'
 simp only at h0 hp hF
 subst h0 hp hF
 exact ⟨h.ok, h.nd, h.mine, h.pub, h.gr, h.neu, h.os, h.tape, h.output, h.size, h.block⟩
section
variable {P : Program} {f : FuncId} {fn : Func} {ds : List D} {σ : St} {R : D → St → Prop} {X : D → Prop}
end
section
variable {P : Program} {o : Oper} {ρ : Operand → Option D} {d : D} {σ : St}
end
section
variable {P : Program} {o : Oper} {ρ : Operand → Option D}
theorem qpM {α : Type} {f : α → D} {σ : St} {t e : TypeId} {n s by_ : Nat} {parts : Array (Nat × Operand)} (xs : List Operand) (l : List α) (ho : o.op = .buildSlice t n parts) (hE : ElT P t e s by_) (hps : parts.toList = (xs.zipIdx 0).map fun x => (x.2, x.1)) (hn : n = xs.length) (hn0 : 0 < n) (hsm : n * s ≤ 16777216) (hO : zar ρ xs (l.map f)) (hall : ∀ a, sz (f a) = s) (hpl : ∀ a, (f a).plain = true) :
 zC P o ρ σ fun d' σ' => ∃ u, d' = .own u (l.map f) ∧ σ' = .row u l.length e s :: σ := fun K p a w hi h => by
 obtain ⟨hu, ⟨z, hz, hzs⟩, hs0⟩ := hE
 have hmem : ∀ x ∈ xs, x ∈ o.op.operands := fun x hx => by
  rw [ho]
  simp only [Op.operands, List.mem_toArray, hps, jI, jx, Function.comp]
  obtain ⟨i, hi⟩ := List.mem_iff_getElem?.1 hx
  exact ⟨(x, i), by rw [List.mem_zipIdx_iff_getElem?]; simpa using hi, rfl⟩
 have hr := hO.rep (p := p) (w := w) (a := a) fun x hx => h x (hmem x hx)
 have hsz : zJ s (l.map f) := zbJ hall
 have hpl' : ∀ d ∈ l.map f, d.plain = true := fun d hd => by
  obtain ⟨a, _, rfl⟩ := jx.1 hd
  exact hpl a
 have hl := hr.len
 have hlx : l.length = n := by rw [hn, ← jb (f := a.eval), hl, jb]
 obtain ⟨i, hii, hz', hsize, hby⟩ := info_parts hz
 have hpos : ¬ n * i.size = 0 := by
  rw [hsize]
  have := vw hn0 hs0
  omega
 have hf : Instr.fill (fun j => some (j * i.size, i.size)) ((Array.range (n * i.size)).map (z.cells[· % z.cells.size]!)) ((parts.map fun (j, x) => (j, a.eval x)).toList) = some ((xs.map a.eval).flatMap fun v => v.cells.toList).toArray := by
  have e1 : (parts.map fun (j, x) => (j, a.eval x)).toList = ((xs.map a.eval).zipIdx 0).map fun x => (x.2, x.1) := by
   rw [Array.toList_map, hps, List.zipIdx_map, jI, jI]
   rfl
  rw [e1, hsize]
  have := qtB s (xs.map a.eval) 0 [] ((Array.range (n * s)).map (z.cells[· % z.cells.size]!)).toList (hr.szs hsz) og (by simp [hn])
  have e3 : ((Array.range (n * s)).map (z.cells[· % z.cells.size]!)).toList.toArray = (Array.range (n * s)).map (z.cells[· % z.cells.size]!) := by rw [Array.toArray_toList]
  rw [jo, jo, e3] at this
  exact this
 have hrun : (execOp a.eval o).run P w = .ok (.value (.slice (some ⟨w.heap.size, 0, none⟩) n n)) (w.alloc (.cells ((xs.map a.eval).flatMap fun v => v.cells.toList).toArray e)) := by
  unfold execOp
  rw [ho]
  simp [run_buildSlice w t e n _ _ i z hu hii hz' (by rw [hsize]; omega) hpos hf]
 have hrs := hr.reps
 have hlen : ((xs.map a.eval).flatMap fun v => v.cells.toList).length = n * s := by
  have := hrs.len
  rw [this, hsz.szs, jb, hlx]
 unfold Oper.wp
 rw [hrun]
 obtain ⟨p', q1, q2, q3⟩ := qt9 (K := K) (p := p) (σ := σ) (w := w) (cur := ((xs.map a.eval).flatMap fun v => v.cells.toList).toArray) (e := e) (s := s) (n := n) (cap := n) (l := l.map f) (xs := (xs.map a.eval).flatMap fun v => v.cells.toList) hi (by simpa using hlen) (by rw [← hlen]; exact vM) hrs (hr.ones hpl') (by simpa using hlx) (jk _) (by
  have : n * 1 ≤ n * s := vA n hs0
  unfold maxLen; omega)
 exact ⟨_, _, _, p', rfl, ⟨_, rfl, by rw [hlx]⟩, q1, q2, q3⟩
end
section
variable {P : Program} {o : Oper} {ρ : Operand → Option D}
theorem qjf {f : FuncId} {args : Array Operand} {ats : Array TypeId} {σ σ1 : St} (τ : St) {ds : List D} {d : D} (ho : o.op = .call { callee := .value (.func f), args := args, argTypes := ats }) (hf : callee P f) (hO : zar ρ args.toList ds) (hσ : σ.Perm (σ1 ++ τ)) (hS : Spec P f ds σ1 fun d' σ' => d' = d ∧ σ' = σ1) : zC P o ρ σ fun d' σ' => d' = d ∧ σ' = σ := fun K p a w hi h => by
 have h0 := qiP (P := P) (o := o) (ρ := ρ) τ ho hf hO hσ hS K p a w hi h
 refine Oper.wp_mono (fun a' w' hh => ?_) h0
 obtain ⟨v, d', σ', p', h1, ⟨σ1', ⟨rfl, rfl⟩, rfl⟩, h3, h4, h5⟩ := hh
 exact ⟨v, d', σ, p', h1, ⟨rfl, rfl⟩, h3, h4.perm hσ.symm, h5⟩
def zbW (a b : Int) : Option Int := if b = 0 then none else some (wr (Int.tdiv a b))
theorem qwC {t t' : TypeId} {x y : Operand} {m n r : Int} (ho : o.op = .binOp .quo t x y t') (hx : ρ x = some (.int .i64 m)) (hy : ρ y = some (.int .i64 n)) (hr : zbW m n = some r) : zD P o ρ (.int .i64 r) := by
 unfold zbW at hr
 split at hr
 cases hr
 rename_i hn
 rw [← Option.some.inj hr]
 exact qD0 ho hx hy hn
end
inductive Pl where
 | nil
 | cons (i : Nat) (D : List (Nat × Cls)) (next sib : Pl)
def Pl.heads : Pl → List Nat
 | .nil => []
 | .cons i _ _ sb => i :: sb.heads
def Pl.alts : Pl → List (Nat × List (Nat × Cls) × Pl)
 | .nil => []
 | .cons i D nx sb => (i, D, nx) :: sb.alts
def Pl.first : Pl → List (Nat × Cls)
 | .nil => []
 | .cons i D nx _ => (i, .w) :: D ++ nx.first
def zaX (P : Program) (ops : Array Oper) (Q : Env → St → Prop) : Pl → Bool → Env → St → Prop
 | .nil, true => Q
 | .nil, false => fun _ _ => True
 | .cons i D nx sb, _ => fun e s => Run P ops NX (zaX P ops Q nx true) ((i, .w) :: D) e s ∧ zaX P ops Q sb false e s
section
variable {P : Program} {ops : Array Oper} {Q : Env → St → Prop}
theorem qyH {e : Env} {s : St} (h : Q e s) : zaX P ops Q .nil true e s := h
theorem p_no {e : Env} {s : St} : zaX P ops Q .nil false e s := trivial
theorem qy3 {i : Nat} {D : List (Nat × Cls)} {nx sb : Pl} {f : Bool} {e : Env} {s : St} (h : Run P ops NX (zaX P ops Q nx true) ((i, .w) :: D) e s) (h2 : zaX P ops Q sb false e s) : zaX P ops Q (.cons i D nx sb) f e s := ⟨h, h2⟩
theorem qwv {e : Env} {s : St} : ∀ {p : Pl} {f : Bool}, zaX P ops Q p f e s → ∀ x ∈ p.alts, Run P ops NX (zaX P ops Q x.2.2 true) ((x.1, .w) :: x.2.1) e s
 | .nil, _, _, x, hx => by cases hx
 | .cons i D nx sb, _, h, x, hx => by
  rcases jh.1 hx with rfl | hx
  exact h.1
  exact qwv h.2 x hx
def yi (ops : Array Oper) (M : Array Nat) : List (Nat × Cls) → Bool
 | [] => true
 | x :: l => (x.2.isW || l.all fun y => z6 ops M x y) && yi ops M l
def zbo (ops : Array Oper) (M : Array Nat) (ord : List (Nat × Cls)) (H : List Nat) : Bool := (List.range ops.size).all fun k => (ord.any fun x => x.1 == k) || ((H.any fun x => x == k) || ((List.range ops.size).any fun j => !(ord.any fun x => x.1 == j) && (M.getD k 0).testBit j))
def okP (ops : Array Oper) (M : Array Nat) : Pl → List (Nat × Cls) → List Nat → Bool → Bool
 | .nil, ord, _, f => !f || (zak ops.size ord && yi ops M ord)
 | .cons i D nx sb, ord, H, _ => zbo ops M ord H && (D.all fun x => !x.2.isW) && okP ops M nx (ord ++ (i, .w) :: D) nx.heads true && okP ops M sb ord H false
def zbq (ops : Array Oper) (pre : List (Nat × Cls)) (p : Pl) : Bool := za2 ops (ranks ops.size ((pre ++ p.first).map (·.1))) (yv ops ((pre ++ p.first).map (·.1))) && zb2 ops (ranks ops.size ((pre ++ p.first).map (·.1))) && (pre.all fun x => !x.2.isW) && okP ops (yv ops ((pre ++ p.first).map (·.1))) p pre p.heads true
theorem qsR {M : Array Nat} : ∀ {p : Pl} {ord : List (Nat × Cls)} {H : List Nat}, okP ops M p ord H true = true → ∃ ext, zak ops.size (ord ++ ext) = true ∧ yi ops M (ord ++ ext) = true ∧ ((∃ i D nx sb, p = .cons i D nx sb ∧ ∃ e', ext = (i, .w) :: e') ∨ (p = .nil ∧ ext = []))
 | .nil, ord, H, h => by
  simp only [okP, jL, vu, jj] at h
  exact ⟨[], by rw [js]; exact h.1, by rw [js]; exact h.2, .inr ⟨rfl, rfl⟩⟩
 | .cons i D nx sb, ord, H, h => by
  simp only [okP, jj] at h
  obtain ⟨ext, h1, h2, _⟩ := qsR h.1.2
  rw [ji] at h1 h2
  exact ⟨_, h1, h2, .inl ⟨i, D, nx, sb, rfl, _, rfl⟩⟩
theorem qvH {M : Array Nat} : ∀ {p : Pl} {ord : List (Nat × Cls)} {H : List Nat} {f : Bool}, okP ops M p ord H f = true → ∀ x ∈ p.alts, zbo ops M ord H = true ∧ (∀ y ∈ x.2.1, y.2.isW = false) ∧ okP ops M x.2.2 (ord ++ (x.1, .w) :: x.2.1) x.2.2.heads true = true
 | .nil, _, _, _, _, x, hx => by cases hx
 | .cons i D nx sb, ord, H, f, h, x, hx => by
  simp only [okP, jj] at h
  rcases jh.1 hx with rfl | hx
  exact ⟨h.1.1.1, fun y hy => by simpa using jv.1 h.1.1.2 y hy, h.1.2⟩
  exact qvH h.2 x hx
theorem qvd : ∀ {p : Pl} {k : Nat}, k ∈ p.heads → ∃ x ∈ p.alts, x.1 = k
 | .nil, _, h => by cases h
 | .cons i D nx sb, k, h => by
  rcases jh.1 h with rfl | h
  exact ⟨_, jd .., rfl⟩
  obtain ⟨x, h1, h2⟩ := qvd h
  exact ⟨x, jf _ h1, h2⟩
theorem qjn {M : Array Nat} : ∀ {l m : List (Nat × Cls)} {x y : Nat × Cls}, yi ops M (l ++ x :: m) = true → x.2.isW = false → y ∈ m → z6 ops M x y = true
 | [], m, x, y, h, hx, hy => by
  simp only [jo, yi, hx, vu, jj] at h
  exact jv.1 h.1 y hy
 | z :: l, m, x, y, h, hx, hy => by
  simp only [jB, yi, jj] at h
  exact qjn h.2 hx hy
theorem za7 {σ : St} {l : List (Nat × Cls)} {E : Env} (hq : ∀ x ∈ l, x.2.isW = false) (h : Run P ops NX Q l E σ) : ∃ new : List PE, l = new.map (fun e => (e.i, e.c)) ∧ Q (yf E new) σ ∧ (∀ d1 e d2, new = d1 ++ e :: d2 → e.E = yf E d1 ∧ ops[e.i]? = some e.o ∧ zaC P ops σ e ∧ e.c.isW = false) := by
 obtain ⟨new, l', h1, h2, h3, h4⟩ := za3 (P := P) (Q := Q) E σ l E h
 rcases h4 with rfl | ⟨i, c, l'', rfl, hc⟩
 exact ⟨new, by rw [h1, js], h2, h3⟩
 have := hq (i, c) (by rw [h1]; simp)
 rw [hc] at this
 cases this
structure MidP (P : Program) (ops : Array Oper) (Q : Env → St → Prop) (K : Ctx) (n : Nat) (m : Md) (M : Array Nat) (env0 : Env) (done : List PE) (p : Pl) (listed : Array Bool) (σ : St) (a : Act) (w : World) : Prop where
 ok : okP ops M p (done.map fun e => (e.i, e.c)) p.heads true = true
 chain : ∀ d1 e d2, done = d1 ++ e :: d2 → e.E = yf env0 d1 ∧ ops[e.i]? = some e.o ∧ (Tof listed e.i = false → zaC P ops σ e ∧ e.c.isW = false)
 rest : zaX P ops Q p true (yf env0 done) σ
 new : ∀ k, Tof listed k = true → ∃ e ∈ done, e.i = k
 down : Down ops listed
 size : listed.size = ops.size
 good : Good K n m (zI (Tof listed) env0 done) σ a w
end
section
variable {P : Program} {ops : Array Oper} {Q : Env → St → Prop}
theorem qAY {n : Nat} {md : Md} {K : Ctx} {env0 : Env} {M r : Array Nat} (hok : yx ops n = true) (hM : za2 ops r M = true) (hL : zb2 ops r = true) :
 ∀ (fuel : Nat) (pl : Pl) (done : List PE) (listed : Array Bool) (σ : St) (a : Act) (w : World), MidP P ops Q K n md M env0 done pl listed σ a w → yz ops.size listed = fuel →
  wpAnyIn (fw md.rd) 0 P .any ops (zbi P K n md NX Q) fuel listed a w := by
 intro fuel
 induction fuel with
 | zero =>
  intro pl done listed σ a w m h0
  have hall : ∀ i, i < ops.size → Tof listed i = true := fun i hi => by
   cases hT : Tof listed i with
   | true => rfl
   | false =>
    have : (i, Cls.d) ∈ ((List.range ops.size).map fun i => (i, Cls.d)).filter fun x => !Tof listed x.1 := vl.2 ⟨jx.2 ⟨i, by simpa using hi, rfl⟩, by simp [hT]⟩
    have := vX this
    unfold yz left at h0
    omega
  refine ⟨?_, .inl ⟨rfl, ?_⟩⟩
  refine Ji.2 fun i hi => ?_
  obtain ⟨hun, o, ho, _⟩ := mem_ready.1 hi
  have hi' := (jE.1 ho).1
  have := hall i hi'
  unfold Tof at this
  have hs : i < listed.size := by rw [m.size]; exact hi'
  simp [hs] at this hun
  rw [this] at hun
  cases hun
  obtain ⟨ext, hI, _, hext⟩ := qsR m.ok
  simp only [zak, jj, decide_eq_true_eq] at hI
  obtain ⟨⟨_, hI2⟩, hnd⟩ := hI
  have hpl : pl = .nil := by
   rcases hext with ⟨i, D, nx, sb, _, e', rfl⟩ | ⟨h, _⟩
   exfalso
   have hi : i < ops.size := by simpa using jv.1 hI2 (i, .w) og
   obtain ⟨e, he, hei⟩ := m.new i (hall i hi)
   rw [jK, jI] at hnd
   exact (jH.1 hnd).2.2 e.i (jF he) i og hei
   exact h
  obtain ⟨p, g1, g2, g3, g4⟩ := m.good
  have hr := m.rest
  rw [hpl] at hr
  have he : zI (Tof listed) env0 done = yf env0 done := qhE fun e he => by
   obtain ⟨d1, d2, hd⟩ := jR he
   exact hall e.i (jE.1 (m.chain d1 e d2 hd).2.1).1
  exact ⟨_, σ, p, hr, g1, he ▸ g2, g3, g4⟩
 | succ fuel ih =>
  intro pl done listed σ a w m h0
  obtain ⟨ext, hI, hP, hext⟩ := qsR m.ok
  simp only [zak, jj, decide_eq_true_eq] at hI
  obtain ⟨⟨hI1, hI2⟩, hnd⟩ := hI
  obtain ⟨p, g1, g2, g3, g4⟩ := m.good
  have hmask := fun k o ho hall j hj => qqF (ops := ops) hM m.down _ k o rfl ho hall j hj
  refine ⟨fun hnone => ?_, fun i hi => ?_⟩
  exfalso
  -- one that has not come up, the first of them
  have hex : ∃ i, i < ops.size ∧ Tof listed i = false := by
   have : 0 < yz ops.size listed := by omega
   unfold yz left at this
   obtain ⟨x, hx⟩ := List.exists_mem_of_length_pos this
   obtain ⟨hx1, hx2⟩ := vl.1 hx
   obtain ⟨y, hy, rfl⟩ := jx.1 hx1
   exact ⟨y, by simpa using hy, by simpa using hx2⟩
  obtain ⟨i, hi1, hi2⟩ := hex
  have : ∀ n k, r.getD k 0 = n → k < ops.size → Tof listed k = false → False := by
   intro n
   induction n using Nat.strongRecOn with
   | _ n ihk =>
    intro k hkn hk1 hk2
    have hr : k ∈ Region.ready .any ops listed := by
     refine mem_ready.2 ⟨?_, ops[k], vf hk1, fun e he hb => ?_⟩
     have hs : k < listed.size := by rw [m.size]; exact hk1
     unfold Tof at hk2
     simp [hs] at hk2 ⊢
     exact hk2
     cases hT : Tof listed e.on with
     | true => exact hT
     | false =>
      have hl := jv.1 hL k (by simpa using hk1)
      simp only [vf hk1] at hl
      have := (Array.all_eq_true_iff_forall_mem.1 hl) e he
      simp only [hb, jL, vu, decide_eq_true_eq] at this
      exact (ihk _ (by rw [← hkn]; exact this.1) e.on rfl this.2 hT).elim
    rw [hnone] at hr
    cases hr
  exact this _ i rfl hi1 hi2
  · obtain ⟨hun, o, ho, hdeps⟩ := mem_ready.1 hi
    have hi' := (jE.1 ho).1
    have hs : i < listed.size := by rw [m.size]; exact hi'
    have hT : Tof listed i = false := by
     unfold Tof
     simp [hs] at hun ⊢
     exact hun
    have hdown : Down ops (listed.setIfInBounds i true) := fun k o' ho' hk e he hb => by
     rw [qeH hs] at hk ⊢
     split
     · rfl
     · by_cases hki : k = i
       · subst hki
         rw [ho] at ho'
         injection ho' with ho'
         subst ho'
         exact hdeps e he hb
       · rw [if_neg hki] at hk
         exact m.down k o' ho' hk e he hb
    have hleft := qwI (ord := (List.range ops.size).map fun i => (i, Cls.d)) (c := Cls.d) (by rw [jI]; have : (vm ∘ fun i : Nat => (i, Cls.d)) = id := rfl; rw [this, List.map_id]; exact List.nodup_range) (jx.2 ⟨i, by simpa using hi', rfl⟩) hs hT
    -- who must have come up, who cannot have
    have before : ∀ x y : Nat × Cls, x.1 < ops.size → z6 ops M x y = true → y.1 = i → Tof listed x.1 = false → x.2.isW = false ∧ ¬(x.2 = .r ∧ y.2.isW = true) ∧ yl ops x.1 y.1 = true := fun x y hx hp hy hf => qlU hp (by
     cases hb : (M.getD y.1 0).testBit x.1 with
     | false => rfl
     | true =>
      rw [hy] at hb
      rw [hmask i o ho hdeps x.1 hx hb] at hf
      cases hf)
    have behind : ∀ x y : Nat × Cls, y.1 < ops.size → z6 ops M x y = true → x.1 = i → Tof listed y.1 = true → x.2.isW = false ∧ ¬(x.2 = .r ∧ y.2.isW = true) ∧ yl ops x.1 y.1 = true := fun x y hy hp hx ht => qlU hp (by
     cases hb : (M.getD y.1 0).testBit x.1 with
     | false => rfl
     | true =>
      have h1 := hmask y.1 _ (vf hy) (m.down y.1 _ (vf hy) ht) x.1 (by rw [hx]; exact hi') hb
      rw [hx, hT] at h1
      cases h1)
    have apartL : ∀ {j k : Nat} {x y : Oper}, yl ops j k = true → ops[j]? = some x → ops[k]? = some y → x.apart ops y = true := fun {j k x y} h hx hy => by
     unfold yl at h
     rw [hx, hy] at h
     exact h
    by_cases hin : ∃ e ∈ done, e.i = i
    · -- it is pending
      obtain ⟨e, he, hec⟩ := hin
      obtain ⟨d1, d2, hsplit⟩ := jR he
      obtain rfl : e.i = i := hec
      obtain ⟨hE, heo, hpend⟩ := m.chain d1 e d2 hsplit
      obtain ⟨hp, hcw⟩ := hpend hT
      have heq : e.o = o := by rw [heo] at ho; injection ho
      have hunl : ∀ x ∈ done, Tof listed x.i = false → x.c.isW = false := fun x hx hf => by
       obtain ⟨u1, u2, hu⟩ := jR hx
       exact ((m.chain u1 x u2 hu).2.2 hf).2
      have hpair1 : ∀ x ∈ d1, Tof listed x.i = false → z6 ops M (x.i, x.c) (e.i, e.c) = true := fun x hx hf => by
       obtain ⟨u1, u2, hu⟩ := jR hx
       have : yi ops M ((u1.map fun e => (e.i, e.c)) ++ (x.i, x.c) :: ((u2.map fun e => (e.i, e.c)) ++ (e.i, e.c) :: ((d2.map fun e => (e.i, e.c)) ++ ext))) = true := by
        rw [← hP, hsplit, hu]; simp
       exact qjn this (hunl x (by rw [hsplit]; exact jr _ hx) hf) og
      have hpair2 : ∀ x ∈ d2, z6 ops M (e.i, e.c) (x.i, x.c) = true := fun x hx => by
       have : yi ops M ((d1.map fun e => (e.i, e.c)) ++ (e.i, e.c) :: ((d2.map fun e => (e.i, e.c)) ++ ext)) = true := by
        rw [← hP, hsplit]; simp
       exact qjn this hcw (jr _ (jF hx))
      have hmemlt : ∀ x ∈ done, x.i < ops.size ∧ ops[x.i]? = some x.o := fun x hx => by
       obtain ⟨u1, u2, hu⟩ := jR hx
       have := (m.chain u1 x u2 hu).2.1
       exact ⟨(jE.1 this).1, this⟩
      have hin1 : ∀ x ∈ d1, x ∈ done := fun x hx => by rw [hsplit]; exact jr _ hx
      have hin2 : ∀ x ∈ d2, x ∈ done := fun x hx => by rw [hsplit]; exact jz _ (jf _ hx)
      have hlook : ∀ t ∈ o.looksAt ops, lk (zI (Tof listed) env0 done) t = lk e.E t := fun t ht => by
       rw [hsplit, qkP]
       have hcons : zI (Tof listed) (zI (Tof listed) env0 d1) (e :: d2) = zI (Tof listed) (zI (Tof listed) env0 d1) d2 := by simp [zI, hT]
       rw [hcons, qj8, hE]
       · refine qoy (fun x hx hd => ?_) rfl
         cases hf : Tof listed x.i with
         | true => rfl
         | false =>
          have := (before (x.i, x.c) (e.i, e.c) (hmemlt x (hin1 x hx)).1 (hpair1 x hx hf) rfl hf).2.2
          have h5 := apartL this (hmemlt x (hin1 x hx)).2 ho
          exact absurd ht ((Oper.apart_spec h5).1 t hd)
       · intro x hx hf hd
         have := (behind (e.i, e.c) (x.i, x.c) (hmemlt x (hin2 x hx)).1 (hpair2 x hx) rfl hf).2.2
         have h5 := apartL this ho (hmemlt x (hin2 x hx)).2
         exact (Oper.apart_spec h5).2.2 t hd ht
      have hrep : ∀ t ∈ o.looksAt ops, ∀ d, lk e.E t = some d → Rep p w d (a.tmps.getD t Go.undef) := fun t ht d hd => g2 t d (by rw [hlook t ht]; exact hd)
      have hput : ∀ t, lk (zI (Tof (listed.setIfInBounds e.i true)) env0 done) t = lk ((zI (Tof listed) env0 done).put o.dst e.V) t := fun t => by
       have hne1 : ∀ x ∈ d1, x.i ≠ e.i := fun x hx hxe => by
        rw [hsplit] at hnd
        simp only [jK, jm, jI] at hnd
        have := jH.1 (jH.1 hnd).1
        exact this.2.2 _ (jF hx) _ (jd ..) hxe
       have hne2 : ∀ x ∈ d2, x.i ≠ e.i := fun x hx hxe => by
        rw [hsplit] at hnd
        simp only [jK, jm, jI] at hnd
        have := (jH.1 (jH.1 hnd).1).2.1
        simp only [jP] at this
        exact this.1 (jx.2 ⟨x, hx, hxe⟩)
       have e1 : zI (Tof (listed.setIfInBounds e.i true)) env0 done = zI (Tof listed) ((zI (Tof listed) env0 d1).put o.dst e.V) d2 := by
        rw [hsplit, qkP, qhE (T := Tof (listed.setIfInBounds e.i true)) (T' := Tof listed) (l := d1) fun x hx => by rw [qeH hs, if_neg (hne1 x hx)]]
        have : zI (Tof (listed.setIfInBounds e.i true)) (zI (Tof listed) env0 d1) (e :: d2) = zI (Tof (listed.setIfInBounds e.i true)) ((zI (Tof listed) env0 d1).put o.dst e.V) d2 := by
         simp [zI, qeH hs, heq]
        rw [this]
        exact qhE fun x hx => by rw [qeH hs, if_neg (hne2 x hx)]
       have e2 : zI (Tof listed) env0 done = zI (Tof listed) (zI (Tof listed) env0 d1) d2 := by
        rw [hsplit, qkP]; simp [zI, hT]
       rw [e1, e2, qhH]
       by_cases hd : o.dst = some t
       · rw [if_pos hd, qj8, qhH, if_pos hd]
         intro x hx hf hxd
         have := (behind (e.i, e.c) (x.i, x.c) (hmemlt x (hin2 x hx)).1 (hpair2 x hx) rfl hf).2.2
         have h5 := apartL this ho (hmemlt x (hin2 x hx)).2
         exact (Oper.apart_spec h5).2.1 t hd hxd
       · rw [if_neg hd]
         have gen : ∀ (m : List PE) (A B : Env), lk A t = lk B t → lk (zI (Tof listed) A m) t = lk (zI (Tof listed) B m) t := by
          intro m
          induction m with
          | nil => exact fun A B h => h
          | cons x m ihm =>
           intro A B h
           simp only [zI, vj]
           refine ihm _ _ ?_
           split
           · simp only [qhH]; split <;> simp [h]
           · exact h
         exact gen d2 _ _ (by rw [qhH, if_neg hd])
      have next : ∀ (a' : Act) (w' : World) (p' : Addr → Prop) (v : Value), a' = a.put o.dst v → Rep p' w' e.V v → Inv K p' σ w' → zT p w p' w' → MidP P ops Q K n md M env0 done pl (listed.setIfInBounds e.i true) σ a' w' := fun a' w' p' v ha' hv hi2 hg => by
       refine ⟨m.ok, fun u1 x u2 hu => ?_, m.rest, fun k hk => ?_, hdown, by simpa using m.size, ⟨p', hi2, fun t d ht => ?_, ?_, ?_⟩⟩
       · obtain ⟨q1, q2, q3⟩ := m.chain u1 x u2 hu
         refine ⟨q1, q2, fun hf => q3 ?_⟩
         rw [qeH hs] at hf
         split at hf
         · cases hf
         · exact hf
       · rw [qeH hs] at hk
         split at hk
         · rename_i hke
           exact ⟨e, he, hke.symm⟩
         · exact m.new k hk
       · rw [hput t] at ht
         have hr' := (g2.grow hg).put (dst := o.dst) hv fun t ht => vi (qlN hok ho t ht) g3
         rw [ha']
         exact hr' t d ht
       · rw [ha', qns]; exact g3
       · rw [ha', qhw]; exact g4
      unfold wpOpIn
      simp only [ho]
      have hlf : yz ops.size (listed.setIfInBounds e.i true) = fuel := by unfold yz at h0 ⊢; omega
      rcases hp with ⟨hw, hV⟩ | ⟨hw, hp⟩
      · rw [heq] at hw
        rw [qgh hrep hw]
        simp only [jS, if_false]
        exact ⟨fun f _ => quG _ f, ih _ _ _ _ _ _ (next _ w p Go.undef rfl (by rw [hV]; simp only [Rep]) g1 (zT.refl p w)) hlf⟩
      · rw [heq] at hw
        rw [qgh hrep hw]
        simp only [if_true]
        have hst : zC P o (ev e.E) σ fun d' σ' => d' = e.V ∧ σ' = σ := by
         rw [← heq]
         rcases hp with ⟨_, hp⟩ | ⟨_, hp⟩
         · exact hp σ
         · exact hp
        refine ql3 (fun a' w' hh => ?_) (fun _ _ _ hh => hh.elim) (hst.y md.rd K p a w g1 (qnS hok ho hrep))
        obtain ⟨v, d, σ', p', ha', ⟨rfl, rfl⟩, hv, hi2, hg⟩ := hh
        exact ih _ _ _ _ _ _ (next a' w' p' v ha' hv hi2 hg) hlf
    · -- it is the next one of our plan
      obtain ⟨x, hx, hxi⟩ : ∃ x ∈ pl.alts, x.1 = i := by
       have hno : ∀ j, j < ops.size → (∀ e ∈ done, e.i ≠ j) → (done.map fun e => (e.i, e.c)).any (fun x => x.1 == j) = false := fun j _ hj => by
        rw [List.any_eq_false]
        intro y hy
        obtain ⟨e, he, rfl⟩ := jx.1 hy
        simpa using hj e he
       have hni : ∀ e ∈ done, e.i ≠ i := fun e he hei => hin ⟨e, he, hei⟩
       rcases hext with ⟨i0, D0, nx0, sb0, rfl, _⟩ | ⟨_, rfl⟩
       · have hcov := (qvH m.ok (i0, D0, nx0) (jd ..)).1
         have h1 := jv.1 hcov i (by simpa using hi')
         rw [hno i hi' hni, vu, Bool.or_eq_true] at h1
         rcases h1 with h1 | h1
         · obtain ⟨k, hk, hki⟩ := vg.1 h1
           obtain rfl : k = i := beq_iff_eq.1 hki
           exact qvd hk
         · exfalso
           obtain ⟨j, hj, hb⟩ := vg.1 h1
           have hj : j < ops.size := by simpa using hj
           rw [jj, vW] at hb
           obtain ⟨e, he, hej⟩ := m.new j (hmask i o ho hdeps j hj hb.2)
           have := List.any_eq_false.1 hb.1 (e.i, e.c) (jF he)
           simp [hej] at this
       · exfalso
         obtain ⟨y, hy, hyi⟩ := vg.1 (jv.1 hI1 i (by simpa using hi'))
         rw [js] at hy
         obtain ⟨e, he, rfl⟩ := jx.1 hy
         exact hni e he (beq_iff_eq.1 hyi)
      obtain ⟨i0, Dq, nx⟩ := x
      simp only at hxi
      subst hxi
      obtain ⟨_, hDq, hokn⟩ := qvH m.ok _ hx
      simp only at hDq hokn
      have hrun := qwv m.rest _ hx
      simp only at hrun
      clear hP hI1 hI2 hnd hext
      obtain ⟨ext, hI, hP, _⟩ := qsR hokn
      simp only [zak, jj, decide_eq_true_eq] at hI
      obtain ⟨⟨hI1, hI2⟩, hnd⟩ := hI
      have hunl : ∀ x ∈ done, Tof listed x.i = false → x.c.isW = false := fun x hx hf => by
       obtain ⟨u1, u2, hu⟩ := jR hx
       exact ((m.chain u1 x u2 hu).2.2 hf).2
      have hpair : ∀ x ∈ done, Tof listed x.i = false → z6 ops M (x.i, x.c) (i0, .w) = true := fun x hx hf => by
       obtain ⟨u1, u2, hu⟩ := jR hx
       have : yi ops M ((u1.map fun e => (e.i, e.c)) ++ (x.i, x.c) :: ((u2.map fun e => (e.i, e.c)) ++ (i0, .w) :: (Dq ++ ext))) = true := by
        rw [← hP, hu]; simp
       exact qjn this (hunl x hx hf) og
      have hmemlt : ∀ x ∈ done, x.i < ops.size ∧ ops[x.i]? = some x.o := fun x hx => by
       obtain ⟨u1, u2, hu⟩ := jR hx
       have := (m.chain u1 x u2 hu).2.1
       exact ⟨(jE.1 this).1, this⟩
      have hne : ∀ x ∈ done, x.i ≠ i0 := fun x hx hxe => hin ⟨x, hx, hxe⟩
      have hlook : ∀ t ∈ o.looksAt ops, lk (zI (Tof listed) env0 done) t = lk (yf env0 done) t := fun t ht =>
       qoy (fun x hx hd => by
        cases hf : Tof listed x.i with
        | true => rfl
        | false =>
         have := (before (x.i, x.c) (i0, .w) (hmemlt x hx).1 (hpair x hx hf) rfl hf).2.2
         have h5 := apartL this (hmemlt x hx).2 ho
         exact absurd ht ((Oper.apart_spec h5).1 t hd)) rfl
      have hrep : ∀ t ∈ o.looksAt ops, ∀ d, lk (yf env0 done) t = some d → Rep p w d (a.tmps.getD t Go.undef) := fun t ht d hd => g2 t d (by rw [hlook t ht]; exact hd)
      have next : ∀ (a' : Act) (w' : World) (p' : Addr → Prop) (v : Value) (V : D) (σ' : St), a' = a.put o.dst v → Rep p' w' V v → Inv K p' σ' w' → zT p w p' w' → Run P ops NX (zaX P ops Q nx true) Dq ((yf env0 done).put o.dst V) σ' →
       ∃ done', MidP P ops Q K n md M env0 done' nx (listed.setIfInBounds i0 true) σ' a' w' := fun a' w' p' v V σ' ha' hv hi2 hg hrun => by
       obtain ⟨new, h1, h2, h3⟩ := za7 hDq hrun
       have heA : yf env0 (done ++ [⟨i0, .w, o, yf env0 done, V⟩]) = (yf env0 done).put o.dst V := by simp [zI]
       have hnd' : (done.map (fun e => e.i) ++ i0 :: (new.map (fun e => e.i) ++ ext.map (·.1))).Nodup := by
        have := hnd
        rw [h1] at this
        simpa [jI, Function.comp_def] using this
       have hnd2 := jH.1 hnd'
       have hnd3 := jP.1 hnd2.2.1
       have hnewf : ∀ x ∈ new, Tof (listed.setIfInBounds i0 true) x.i = false := fun x hx => by
        have hxi : x.i ≠ i0 := fun e => hnd3.1 (by rw [← e]; exact jr _ (jF hx))
        rw [qeH hs, if_neg hxi]
        cases hT2 : Tof listed x.i with
        | false => rfl
        | true =>
         obtain ⟨e, he, hei⟩ := m.new x.i hT2
         exact absurd hei (hnd2.2.2 e.i (jF he) x.i (jf _ (jr _ (jF hx))))
       refine ⟨done ++ ⟨i0, .w, o, yf env0 done, V⟩ :: new, ⟨by have := hokn; rw [h1] at this; simpa using this, fun u1 x u2 hu => ?_, ?_, fun k hk => ?_, hdown, by simpa using m.size, ⟨p', hi2, fun t d ht => ?_, ?_, ?_⟩⟩⟩
       · -- the chain
         rcases List.append_eq_append_iff.1 hu with ⟨v1, hv1, hv2⟩ | ⟨v1, hv1, hv2⟩
         · cases v1 with
           | nil =>
            simp only [jo, List.cons.injEq] at hv2
            obtain ⟨rfl, rfl⟩ := hv2
            simp only [js] at hv1
            subst hv1
            exact ⟨rfl, ho, fun hf => by rw [qeH hs, if_pos rfl] at hf; cases hf⟩
           | cons y v1 =>
            simp only [jB, List.cons.injEq] at hv2
            obtain ⟨rfl, hv2⟩ := hv2
            obtain ⟨q1, q2, q3, q4⟩ := h3 v1 x u2 hv2
            refine ⟨?_, q2, fun _ => ⟨q3, q4⟩⟩
            rw [q1, hv1]
            simp [zI]
         · cases v1 with
           | nil =>
            simp only [jo, List.cons.injEq] at hv2
            obtain ⟨rfl, rfl⟩ := hv2
            simp only [js] at hv1
            subst hv1
            exact ⟨rfl, ho, fun hf => by rw [qeH hs, if_pos rfl] at hf; cases hf⟩
           | cons y v1 =>
            simp only [jB, List.cons.injEq] at hv2
            obtain ⟨rfl, hv2⟩ := hv2
            have hxin : x ∈ done := by rw [hv1]; simp
            obtain ⟨q1, q2, q3⟩ := m.chain u1 x v1 hv1
            refine ⟨q1, q2, fun hf => ?_⟩
            rw [qeH hs, if_neg (hne x hxin)] at hf
            obtain ⟨q4, q5⟩ := q3 hf
            refine ⟨?_, q5⟩
            have hnr := (before (x.i, x.c) (i0, .w) (hmemlt x hxin).1 (hpair x hxin hf) rfl hf).2.1
            rcases q4 with q4 | ⟨q4, q6⟩
            · exact .inl q4
            · refine .inr ⟨q4, ?_⟩
              rcases q6 with q6 | ⟨q6, _⟩
              · exact .inl q6
              · exact absurd ⟨q6, rfl⟩ hnr
       · have hee : yf env0 (done ++ (⟨i0, .w, o, yf env0 done, V⟩ : PE) :: new) = yf ((yf env0 done).put o.dst V) new := by
          rw [← heA]
          simp [zI]
         rw [hee]
         exact h2
       · rw [qeH hs] at hk
         split at hk
         · rename_i hke
           exact ⟨⟨i0, .w, o, yf env0 done, V⟩, by simp, hke.symm⟩
         · obtain ⟨e, he, hek⟩ := m.new k hk
           exact ⟨e, jr _ he, hek⟩
       · have hT' : ∀ x ∈ done, Tof (listed.setIfInBounds i0 true) x.i = Tof listed x.i := fun x hx => by rw [qeH hs, if_neg (hne x hx)]
         rw [qkP, qhE hT'] at ht
         have hcons : zI (Tof (listed.setIfInBounds i0 true)) (zI (Tof listed) env0 done) (⟨i0, .w, o, yf env0 done, V⟩ :: new) = zI (Tof (listed.setIfInBounds i0 true)) ((zI (Tof listed) env0 done).put o.dst V) new := by simp [zI, qeH hs]
         rw [hcons, qj8 (fun x hx hf => by rw [hnewf x hx] at hf; cases hf)] at ht
         have hr' := (g2.grow hg).put (dst := o.dst) hv fun t ht => vi (qlN hok ho t ht) g3
         rw [ha']
         exact hr' t d ht
       · rw [ha', qns]; exact g3
       · rw [ha', qhw]; exact g4
      have hlf : yz ops.size (listed.setIfInBounds i0 true) = fuel := by unfold yz at h0 ⊢; omega
      unfold wpOpIn
      simp only [ho]
      obtain ⟨o', ho', hrun⟩ := hrun
      obtain rfl : o' = o := by rw [ho] at ho'; injection ho' with h; exact h.symm
      have hrun : (yG ops (yf env0 done) o' = some false ∧ Run P ops NX (zaX P ops Q nx true) Dq ((yf env0 done).put o'.dst .undef) σ) ∨ (yG ops (yf env0 done) o' = some true ∧ ∃ R, zbf P o' (ev (yf env0 done)) σ R ∧ ∀ d σ', R d σ' → Run P ops NX (zaX P ops Q nx true) Dq ((yf env0 done).put o'.dst d) σ') := by
       rcases hrun with hrun | hrun | ⟨_, _, _, _, _, hx, _⟩
       · exact .inl hrun
       · exact .inr hrun
       · exact hx.elim
      rcases hrun with ⟨hw, hk⟩ | ⟨hw, R, hst, hk⟩
      · rw [qgh hrep hw]
        simp only [jS, if_false]
        obtain ⟨done', hm⟩ := next _ w p Go.undef .undef σ rfl (by simp only [Rep]) g1 (zT.refl p w) hk
        exact ⟨fun f _ => quG _ f, ih _ _ _ _ _ _ hm hlf⟩
      · rw [qgh hrep hw]
        simp only [if_true]
        refine ql3 (fun a' w' hh => ?_) (fun _ _ _ hh => hh.elim) (hst md.rd K p a w g1 (qnS hok ho hrep))
        obtain ⟨v, d, σ', p', ha', hR, hv, hi2, hg⟩ := hh
        obtain ⟨done', hm⟩ := next a' w' p' v d σ' ha' hv hi2 hg (hk d σ' hR)
        exact ih _ _ _ _ _ _ hm hlf
theorem qCW {n : Nat} {md : Md} {K : Ctx} {env : Env} {σ : St} (hok : yx ops n = true) (pre : List (Nat × Cls)) (pl : Pl) (hA : zbq ops pre pl = true) (h : Run P ops NX (zaX P ops Q pl true) pre env σ)
 {p : Addr → Prop} {a : Act} {w : World} (hi : Inv K p σ w) (hr : zW p w env a) (hn : n ≤ a.tmps.size) (hd : a.defers = md.marks) :
 wpAnyIn (fw md.rd) 0 P .any ops (zbi P K n md NX Q) ops.size (Array.replicate ops.size false) a w := by
 simp only [zbq, jj] at hA
 obtain ⟨⟨⟨hM, hL⟩, hq⟩, hP⟩ := hA
 obtain ⟨new, h1, h2, h3⟩ := za7 (fun x hx => by simpa using jv.1 hq x hx) h
 have h0 : ∀ i, Tof (Array.replicate ops.size false) i = false := fun i => by
  unfold Tof
  rw [Array.getD_eq_getD_getElem?, Array.getElem?_replicate]
  split <;> rfl
 have hfuel : yz ops.size (Array.replicate ops.size false) = ops.size := by
  unfold yz left
  rw [vY.2 fun x _ => by rw [h0]; rfl]
  simp
 refine qAY (P := P) (Q := Q) (K := K) (n := n) hok hM hL _ pl new _ σ a w ⟨by rw [← h1]; exact hP, fun d1 e d2 hh => ?_, h2, fun k hk => ?_, fun k' o _ hk => ?_, by simp, ⟨p, hi, ?_, hn, hd⟩⟩ hfuel
 · obtain ⟨q1, q2, q3, q4⟩ := h3 d1 e d2 hh
   exact ⟨q1, q2, fun _ => ⟨q3, q4⟩⟩
 · rw [h0] at hk; cases hk
 · rw [h0] at hk; cases hk
 · have : zI (Tof (Array.replicate ops.size false)) env new = env := by
    have : ∀ (m : List PE), zI (Tof (Array.replicate ops.size false)) env m = env := by
     intro m
     induction m with
     | nil => rfl
     | cons x m ih => simp only [zI, vj, h0, jS, if_false] at ih ⊢; exact ih
    exact this new
   rw [this]
   exact hr
theorem quE {m : Md} {f : FuncId} {fn : Func} {K : Ctx} {R : D → St → Prop} {k : List Item} {env : Env} {σ : St} {id : Nat} {l : List Oper} (hm : P.follows .mixedOrders = true) (hok : yx l.toArray fn.ntmps = true) (pre : List (Nat × Cls)) (pl : Pl) (hA : zbq l.toArray pre pl = true) (J : Env → St → Prop)
 (h : Run P l.toArray NX (zaX P l.toArray J pl true) pre env σ) (hJ : ∀ e s, J e s → zk m P f fn K R k e s) : zk m P f fn K R (.code (.region id l.toArray true) :: k) env σ :=
 qpJ (Q := J) (X := NX) (fun p a w hi hr hn hd => wpIn_region_any hm (qCW (md := m) (P := P) (Q := J) (K := K) (n := fn.ntmps) hok pre pl hA h hi.drew (hr.grow (qhs p w)) hn hd)) (fun _ _ _ h => h.elim) hJ
end
theorem qkA : Ty Tryz.prog 251 false 1 := ⟨⟨_, Tryz.underlying251, rfl⟩, by kernel_rfl⟩
theorem qh2 : Ty Tryz.prog 252 false 1 := ⟨⟨_, Tryz.underlying252, rfl⟩, by kernel_rfl⟩
theorem qgq : ElT Tryz.prog 252 259 4 56 := .of Tryz.underlying252 ob od
theorem qlT : Ty Tryz.prog 254 true 2 := ⟨⟨_, Tryz.underlying254, rfl⟩, by kernel_rfl⟩
theorem qk : Fld Tryz.prog 254 0 0 := ⟨_, _, 1, Tryz.underlying254, rfl, rfl, by kernel_rfl, by decide⟩
theorem qY : Fld Tryz.prog 254 1 1 := ⟨_, _, 1, Tryz.underlying254, rfl, rfl, by kernel_rfl, by decide⟩
theorem qjU : Ty Tryz.prog 255 false 1 := ⟨⟨_, Tryz.underlying255, rfl⟩, by kernel_rfl⟩
theorem qdS : ElT Tryz.prog 255 261 2 16 := .of Tryz.underlying255 ob od
theorem qms : Ty Tryz.prog 259 true 4 := ⟨⟨_, Tryz.underlying259, rfl⟩, by kernel_rfl⟩
theorem qkY : Fld Tryz.prog 259 0 0 := ⟨_, _, 1, Tryz.underlying259, rfl, rfl, by kernel_rfl, by decide⟩
theorem qk7 : Fld Tryz.prog 259 1 1 := ⟨_, _, 1, Tryz.underlying259, rfl, rfl, by kernel_rfl, by decide⟩
theorem qk1 : Fld Tryz.prog 259 2 2 := ⟨_, _, 1, Tryz.underlying259, rfl, rfl, by kernel_rfl, by decide⟩
theorem qfo : Fld Tryz.prog 259 3 3 := ⟨_, _, 1, Tryz.underlying259, rfl, rfl, by kernel_rfl, by decide⟩
theorem qmI : zQ Tryz.prog 259 [.int .i64 0, .int .i64 0, .str ⟨#[]⟩, .lst []] := .mk rfl ob Tryz.underlying259 ob
theorem qiX : ym Tryz.prog 259 (.agg [.int .i64 0, .int .i64 0, .str ⟨#[]⟩, .lst []]) := .agg qmI
theorem qfe : Ty Tryz.prog 261 true 2 := ⟨⟨_, Tryz.underlying261, rfl⟩, by kernel_rfl⟩
theorem qc6 : Fld Tryz.prog 261 0 0 := ⟨_, _, 1, Tryz.underlying261, rfl, rfl, by kernel_rfl, by decide⟩
theorem qdR : Fld Tryz.prog 261 1 1 := ⟨_, _, 1, Tryz.underlying261, rfl, rfl, by kernel_rfl, by decide⟩
theorem qhN : zQ Tryz.prog 261 [.int .i64 0, .int .i64 0] := .mk rfl ob Tryz.underlying261 ob
theorem qgd : ym Tryz.prog 261 (.agg [.int .i64 0, .int .i64 0]) := .agg qhN
theorem ql4 : callee Tryz.prog 144 := ⟨_, _, Tryz.func144, rfl, by decide⟩
theorem ql9 : callee Tryz.prog 169 := ⟨_, _, Tryz.func169, rfl, by decide⟩
theorem qgI : callee Tryz.prog 146 := ⟨_, _, Tryz.func146, rfl, by decide⟩
theorem qh9 : callee Tryz.prog 166 := ⟨_, _, Tryz.func166, rfl, by decide⟩
theorem qhZ : callee Tryz.prog 167 := ⟨_, _, Tryz.func167, rfl, by decide⟩
theorem qbm : callee Tryz.prog 181 := ⟨_, _, Tryz.func181, rfl, by decide⟩
theorem qgt : callee Tryz.prog 182 := ⟨_, _, Tryz.func182, rfl, by decide⟩
theorem qk3 : callee Tryz.prog 183 := ⟨_, _, Tryz.func183, rfl, by decide⟩
theorem qho : callee Tryz.prog 185 := ⟨_, _, Tryz.func185, rfl, by decide⟩
theorem qhn : callee Tryz.prog 170 := ⟨_, _, Tryz.func170, rfl, by decide⟩
theorem qmi : callee Tryz.prog 179 := ⟨_, _, Tryz.func179, rfl, by decide⟩
theorem qff : callee Tryz.prog 194 := ⟨_, _, Tryz.func194, rfl, by decide⟩
theorem qe7 : callee Tryz.prog 164 := ⟨_, _, Tryz.func164, rfl, by decide⟩
theorem ql0 : callee Tryz.prog 196 := ⟨_, _, Tryz.func196, rfl, by decide⟩
theorem qkm : callee Tryz.prog 186 := ⟨_, _, Tryz.func186, rfl, by decide⟩
theorem qib : callee Tryz.prog 191 := ⟨_, _, Tryz.func191, rfl, by decide⟩
theorem qk2 : callee Tryz.prog 192 := ⟨_, _, Tryz.func192, rfl, by decide⟩
theorem qdm : callee Tryz.prog 176 := ⟨_, _, Tryz.func176, rfl, by decide⟩
theorem qhC : callee Tryz.prog 177 := ⟨_, _, Tryz.func177, rfl, by decide⟩
theorem qlq : callee Tryz.prog 178 := ⟨_, _, Tryz.func178, rfl, by decide⟩
theorem qi4 : callee Tryz.prog 175 := ⟨_, _, Tryz.func175, rfl, by decide⟩
theorem qk8 : callee Tryz.prog 197 := ⟨_, _, Tryz.func197, rfl, by decide⟩
theorem qlB : callee Tryz.prog 190 := ⟨_, _, Tryz.func190, rfl, by decide⟩
theorem qlK : callee Tryz.prog 189 := ⟨_, _, Tryz.func189, rfl, by decide⟩
theorem qei : callee Tryz.prog 199 := ⟨_, _, Tryz.func199, rfl, by decide⟩
theorem qgO : callee Tryz.prog 200 := ⟨_, _, Tryz.func200, rfl, by decide⟩
theorem qiB : callee Tryz.prog 201 := ⟨_, _, Tryz.func201, rfl, by decide⟩
theorem qdl : callee Tryz.prog 202 := ⟨_, _, Tryz.func202, rfl, by decide⟩
theorem qgF : callee Tryz.prog 203 := ⟨_, _, Tryz.func203, rfl, by decide⟩
theorem qdn : callee Tryz.prog 204 := ⟨_, _, Tryz.func204, rfl, by decide⟩
theorem qom : Ty Tryz.prog 38 false 1 := ⟨⟨_, Tryz.underlying38, rfl⟩, by kernel_rfl⟩
theorem qfl : ElT Tryz.prog 38 168 2 32 := .of Tryz.underlying38 ob od
theorem qxN : Ty Tryz.prog 200 false 1 := ⟨⟨_, Tryz.underlying200, rfl⟩, by kernel_rfl⟩
theorem qj4 : ElT Tryz.prog 200 60 1 24 := .of Tryz.underlying200 ob od
theorem qv6 : Ty Tryz.prog 168 true 2 := ⟨⟨_, Tryz.underlying168, rfl⟩, by kernel_rfl⟩
theorem qtf : Fld Tryz.prog 168 0 0 := ⟨_, _, 1, Tryz.underlying168, rfl, rfl, by kernel_rfl, by decide⟩
theorem qs0 : Fld Tryz.prog 168 1 1 := ⟨_, _, 1, Tryz.underlying168, rfl, rfl, by kernel_rfl, by decide⟩
theorem qq0 : zQ Tryz.prog 168 [.int .i64 0, .lst []] := .mk rfl ob Tryz.underlying168 ob
theorem qlj : callee Tryz.prog 69 := ⟨_, _, Tryz.func69, rfl, by decide⟩
theorem qlO : callee Tryz.prog 71 := ⟨_, _, Tryz.func71, rfl, by decide⟩
theorem ql2 : callee Tryz.prog 72 := ⟨_, _, Tryz.func72, rfl, by decide⟩
theorem qkE : callee Tryz.prog 137 := ⟨_, _, Tryz.func137, rfl, by decide⟩
theorem qiv : callee Tryz.prog 104 := ⟨_, _, Tryz.func104, rfl, by decide⟩
theorem qgT : callee Tryz.prog 105 := ⟨_, _, Tryz.func105, rfl, by decide⟩
theorem qfw : callee Tryz.prog 107 := ⟨_, _, Tryz.func107, rfl, by decide⟩
theorem qi3 : callee Tryz.prog 116 := ⟨_, _, Tryz.func116, rfl, by decide⟩
theorem qls : callee Tryz.prog 112 := ⟨_, _, Tryz.func112, rfl, by decide⟩
theorem qkH : callee Tryz.prog 117 := ⟨_, _, Tryz.func117, rfl, by decide⟩
theorem qih : callee Tryz.prog 134 := ⟨_, _, Tryz.func134, rfl, by decide⟩
theorem qge : callee Tryz.prog 135 := ⟨_, _, Tryz.func135, rfl, by decide⟩
theorem qnl : callee Tryz.prog 145 := ⟨_, _, Tryz.func145, rfl, by decide⟩
theorem qi8 : callee Tryz.prog 147 := ⟨_, _, Tryz.func147, rfl, by decide⟩
theorem qiN : callee Tryz.prog 139 := ⟨_, _, Tryz.func139, rfl, by decide⟩
theorem qli : callee Tryz.prog 140 := ⟨_, _, Tryz.func140, rfl, by decide⟩
theorem qlC : callee Tryz.prog 149 := ⟨_, _, Tryz.func149, rfl, by decide⟩
theorem qmZ : callee Tryz.prog 150 := ⟨_, _, Tryz.func150, rfl, by decide⟩
theorem qi6 : callee Tryz.prog 159 := ⟨_, _, Tryz.func159, rfl, by decide⟩
theorem qhb : callee Tryz.prog 160 := ⟨_, _, Tryz.func160, rfl, by decide⟩
theorem qin : callee Tryz.prog 161 := ⟨_, _, Tryz.func161, rfl, by decide⟩
theorem qmr : callee Tryz.prog 162 := ⟨_, _, Tryz.func162, rfl, by decide⟩
theorem qll : callee Tryz.prog 163 := ⟨_, _, Tryz.func163, rfl, by decide⟩
theorem qdF : Ty Tryz.prog 34 false 1 := ⟨⟨_, Tryz.underlying34, rfl⟩, by kernel_rfl⟩
theorem qa4 : ElT Tryz.prog 34 90 5 64 := .of Tryz.underlying34 ob od
theorem q7 : Ty Tryz.prog 40 true 7 := ⟨⟨_, Tryz.underlying40, rfl⟩, by kernel_rfl⟩
theorem qW : Fld Tryz.prog 40 0 0 := ⟨_, _, 1, Tryz.underlying40, rfl, rfl, by kernel_rfl, by decide⟩
theorem qe2 : Fld Tryz.prog 40 1 1 := ⟨_, _, 1, Tryz.underlying40, rfl, rfl, by kernel_rfl, by decide⟩
theorem qiK : Fld Tryz.prog 40 2 2 := ⟨_, _, 1, Tryz.underlying40, rfl, rfl, by kernel_rfl, by decide⟩
theorem qiQ : Fld Tryz.prog 40 3 3 := ⟨_, _, 1, Tryz.underlying40, rfl, rfl, by kernel_rfl, by decide⟩
theorem qhA : Fld Tryz.prog 40 4 4 := ⟨_, _, 1, Tryz.underlying40, rfl, rfl, by kernel_rfl, by decide⟩
theorem qiL : Fld Tryz.prog 40 5 5 := ⟨_, _, 1, Tryz.underlying40, rfl, rfl, by kernel_rfl, by decide⟩
theorem qkj : Fld Tryz.prog 40 6 6 := ⟨_, _, 1, Tryz.underlying40, rfl, rfl, by kernel_rfl, by decide⟩
theorem qde : zQ Tryz.prog 40 [.lst [], .lst [], .lst [], .lst [], .int .i64 0, .int .i64 0, .bool false] := .mk rfl ob Tryz.underlying40 ob
theorem qg8 : ym Tryz.prog 40 (.agg [.lst [], .lst [], .lst [], .lst [], .int .i64 0, .int .i64 0, .bool false]) := .agg qde
theorem qrV : Ty Tryz.prog 41 false 1 := ⟨⟨_, Tryz.underlying41, rfl⟩, by kernel_rfl⟩
theorem qef : ElT Tryz.prog 41 62 5 56 := .of Tryz.underlying41 ob od
theorem qnk : Ty Tryz.prog 62 true 5 := ⟨⟨_, Tryz.underlying62, rfl⟩, by kernel_rfl⟩
theorem qrW : Fld Tryz.prog 62 0 0 := ⟨_, _, 1, Tryz.underlying62, rfl, rfl, by kernel_rfl, by decide⟩
theorem qrY : Fld Tryz.prog 62 1 1 := ⟨_, _, 1, Tryz.underlying62, rfl, rfl, by kernel_rfl, by decide⟩
theorem qr9 : Fld Tryz.prog 62 2 2 := ⟨_, _, 1, Tryz.underlying62, rfl, rfl, by kernel_rfl, by decide⟩
theorem qrD : Fld Tryz.prog 62 3 3 := ⟨_, _, 1, Tryz.underlying62, rfl, rfl, by kernel_rfl, by decide⟩
theorem qrF : Fld Tryz.prog 62 4 4 := ⟨_, _, 1, Tryz.underlying62, rfl, rfl, by kernel_rfl, by decide⟩
theorem qgl : zQ Tryz.prog 62 [.int .i64 0, .int .i64 0, .int .i64 0, .int .i64 0, .lst []] := .mk rfl ob Tryz.underlying62 ob
theorem qo1 : ym Tryz.prog 62 (.agg [.int .i64 0, .int .i64 0, .int .i64 0, .int .i64 0, .lst []]) := .agg qgl
theorem qer : Ty Tryz.prog 90 true 5 := ⟨⟨_, Tryz.underlying90, rfl⟩, by kernel_rfl⟩
theorem qhd : Fld Tryz.prog 90 0 0 := ⟨_, _, 3, Tryz.underlying90, rfl, rfl, by kernel_rfl, by decide⟩
theorem qnF : Fld Tryz.prog 90 1 3 := ⟨_, _, 1, Tryz.underlying90, rfl, rfl, by kernel_rfl, by decide⟩
theorem qew : Fld Tryz.prog 90 2 4 := ⟨_, _, 1, Tryz.underlying90, rfl, rfl, by kernel_rfl, by decide⟩
theorem qjp : zQ Tryz.prog 90 [.agg [.int .i64 0, .str ⟨#[]⟩, .lst []], .int .i64 0, .int .i64 0] := .mk rfl ob Tryz.underlying90 ob
theorem qkV : ym Tryz.prog 90 (.agg [.agg [.int .i64 0, .str ⟨#[]⟩, .lst []], .int .i64 0, .int .i64 0]) := .agg qjp
theorem qmL : callee Tryz.prog 10 := ⟨_, _, Tryz.func10, rfl, by decide⟩
theorem qlz : callee Tryz.prog 11 := ⟨_, _, Tryz.func11, rfl, by decide⟩
theorem qgJ : callee Tryz.prog 32 := ⟨_, _, Tryz.func32, rfl, by decide⟩
theorem ql6 : callee Tryz.prog 33 := ⟨_, _, Tryz.func33, rfl, by decide⟩
theorem qni : callee Tryz.prog 34 := ⟨_, _, Tryz.func34, rfl, by decide⟩
theorem qlQ : callee Tryz.prog 73 := ⟨_, _, Tryz.func73, rfl, by decide⟩
theorem qhW : callee Tryz.prog 74 := ⟨_, _, Tryz.func74, rfl, by decide⟩
theorem qjR : callee Tryz.prog 75 := ⟨_, _, Tryz.func75, rfl, by decide⟩
theorem qlw : callee Tryz.prog 76 := ⟨_, _, Tryz.func76, rfl, by decide⟩
theorem qix : callee Tryz.prog 77 := ⟨_, _, Tryz.func77, rfl, by decide⟩
theorem qcl : callee Tryz.prog 79 := ⟨_, _, Tryz.func79, rfl, by decide⟩
theorem qlX : callee Tryz.prog 111 := ⟨_, _, Tryz.func111, rfl, by decide⟩
theorem qkf : callee Tryz.prog 115 := ⟨_, _, Tryz.func115, rfl, by decide⟩
theorem qmy : callee Tryz.prog 138 := ⟨_, _, Tryz.func138, rfl, by decide⟩
theorem qjv : callee Tryz.prog 143 := ⟨_, _, Tryz.func143, rfl, by decide⟩
end Go.Proofs.YtamoolpdganckaaGreat
