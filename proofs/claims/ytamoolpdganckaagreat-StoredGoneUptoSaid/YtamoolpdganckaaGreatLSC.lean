/-
 Texts of the seat, merged.
-/
import Derived.Test.YtamoolpdganckaaGreatLSB
set_option linter.unusedVariables false
set_option linter.unusedSimpArgs false
set_option linter.unnecessarySimpa false
set_option linter.all false
set_option maxHeartbeats 8000000
namespace Go.Proofs.YtamoolpdganckaaGreat
set_option maxRecDepth 100000
open Go.RowKit
section
variable {P : Program} {o : Oper} {ρ : Operand → Option D} {d : D}
theorem qBu {K : Ctx} {p : Addr → Prop} {σ : St} {w : World} {e : TypeId} {s cap : Nat} {l : List D} {xs junk : List Value} (hi : Inv K p σ w) (hr : zu p w l xs) (h1 : ∀ u ∈ xs, u.oneCell' = true) (hall : zO s l) (hs0 : 0 < s) (hn : l.length ≤ cap) (hc : cap ≤ 9223372036854775807) :
 Rep p (w.alloc (.cells (xs ++ junk).toArray e)) (.arr w.heap.size s 0 l.length) (.slice (some ⟨w.heap.size, 0, none⟩) l.length cap) ∧ Inv K p (.arr w.heap.size l e s :: σ) (w.alloc (.cells (xs ++ junk).toArray e)) ∧ zT p w p (w.alloc (.cells (xs ++ junk).toArray e)) := by
 have g0 := qfq hi.pub (.cells (xs ++ junk).toArray e)
 refine ⟨?_, ?_, g0⟩
 · simp only [Rep]
   exact ⟨_, cap, rfl, hn, hc, .inr og⟩
 · refine (hi.alloc _).more ⟨hall, by omega, hs0, .inr ⟨xs, junk, hr.grow g0, h1, heap_alloc_new w _, fun a ha hb => ?_⟩⟩ fun b hb => ?_
   · obtain ⟨u, hu⟩ := hi.pub a ha
     have := qmP hu
     omega
   · cases l with
     | nil => simp [Ob.blk] at hb
     | cons y l =>
      simp only [Ob.blk, Option.some.injEq] at hb
      subst hb
      exact ⟨.inl hi.size, fun hm => by have := hi.lt hm; omega⟩
theorem qmJ {p : Addr → Prop} {w : World} {z : D} {v : Value} (hv : Rep p w z v) : ∀ n, zu p w (List.replicate n z) ((List.replicate n v).flatMap fun v => v.cells.toList)
 | 0 => zu.nil _ _
 | n + 1 => by
  simp only [List.replicate_succ, vv]
  exact zu.cons hv (qmJ hv n)
theorem qxl (zc : Array Value) (n : Nat) (hs : 0 < zc.size) : (madeCells zc (n * zc.size)).toList = (List.replicate n zc).flatMap fun z => z.toList := by
 apply List.ext_getElem?
 intro j
 have gen : ∀ n j, ((List.replicate n zc).flatMap fun z => z.toList)[j]? = if j < n * zc.size then zc[j % zc.size]? else none := by
  intro n
  induction n with
  | zero => intro j; simp
  | succ n ih =>
   intro j
   simp only [List.replicate_succ, vv]
   by_cases hj : j < zc.size
   rw [jT (by simpa using hj), if_pos (by rw [jA, jU]; omega), Nat.mod_eq_of_lt hj]
   simp
   rw [vo oe, ih]
   simp only [jY]
   have e1 : (j - zc.size) % zc.size = j % zc.size := by
    conv => rhs; rw [← Nat.sub_add_cancel (Nat.le_of_not_lt hj), Nat.add_mod_right]
   rw [e1, jA, jU]
   by_cases h2 : j < n * zc.size + zc.size
   rw [if_pos h2, if_pos oa]
   rw [if_neg h2, if_neg oa]
 rw [gen]
 unfold madeCells
 by_cases hj : j < n * zc.size
 rw [if_pos hj]
 have hm : j % zc.size < zc.size := Nat.mod_lt _ hs
 simp [hj, hm]
 rw [if_neg hj]
 simp; omega
theorem qxE {t e : TypeId} {x y : Operand} {s by_ n : Nat} {k k' : IntKind} {a1 a2 : Int} {z : D} {σ : St} (ho : o.op = .makeSlice t x y) (hE : ElT P t e s by_) (hZ : z7 P e z) (hx : ρ x = some (.int k a1)) (hn1 : a1 = (n : Int)) (hy : ρ y = some (.int k' a2)) (hn2 : a2 = (n : Int)) (hb : by_ * n ≤ 281474976710656) (hc : n ≤ 9223372036854775807) :
 zA P o ρ σ fun d' σ' => ∃ b, d' = .arr b s 0 n ∧ σ' = .arr b (List.replicate n z) e s :: σ := fun K p a w hi h => by
 obtain ⟨hu, ⟨zv, hz, hzs⟩, hs0⟩ := hE
 obtain ⟨i, hii, hz', hsize, hby⟩ := info_parts hz
 have h1 := h x (by rw [ho]; simp [Op.operands]) _ hx
 have h2 := h y (by rw [ho]; simp [Op.operands]) _ hy
 simp only [Rep] at h1 h2
 subst hn1 hn2
 have hbi : (i.bytes : Int) * (n : Int) ≤ 281474976710656 := by
  have : ((i.bytes * n : Nat) : Int) ≤ 281474976710656 := by rw [hby]; omega
  rwa [Int.natCast_mul] at this
 have hr := run_make (P := P) w t e i zv hu hii hz' k k' (n : Int) (n : Int) oa (vl _) hbi oa
 simp only [vI] at hr
 have hrun : (execOp a.eval o).run P w = .ok (.value (.slice (some ⟨w.heap.size, 0, none⟩) n n)) (w.alloc (.cells (madeCells zv.cells (n * i.size)) e)) := by
  unfold execOp
  rw [ho]
  simp [h1.1, h2.1, hr]
 obtain ⟨v, v', q1, q2, q3, q4⟩ := hZ.rep p w
 rw [hii] at q1
 simp only [Option.map_some, Option.some.injEq] at q1
 rw [hz'] at q1
 injection q1 with q1
 subst q1
 have hsz : sz z = s := by rw [← Rep.sz q2, q3, hzs]
 have hone : ∀ u ∈ (List.replicate n v').flatMap (fun (v : Value) => v.cells.toList), u.oneCell' = true := fun u hu => by
  obtain ⟨v'', hv'', hu⟩ := List.mem_flatMap.1 hu
  rw [Jg hv''] at hu
  exact Rep.one q2 q4 u hu
 have hcells : madeCells zv.cells (n * i.size) = (((List.replicate n v').flatMap fun (v : Value) => v.cells.toList) ++ ([] : List Value)).toArray := by
  apply j3.1
  rw [hsize, ← hzs, qxl _ _ oa]
  simp only [jv]
  induction n with
  | zero => rfl
  | succ m ih =>
   clear ih
   have : ∀ m, (List.replicate m zv.cells).flatMap (fun z => z.toList) = (List.replicate m v').flatMap fun (v : Value) => v.cells.toList := by
    intro m
    induction m with
    | zero => rfl
    | succ m ih => simp only [List.replicate_succ, vv, ih, q3]
   exact this (m + 1)
 unfold Oper.wp
 rw [hrun, hcells]
 obtain ⟨r1, r2, r3⟩ := qBu (K := K) (p := p) (σ := σ) (w := w) (e := e) (cap := n) (l := List.replicate n z) (xs := (List.replicate n v').flatMap fun (v : Value) => v.cells.toList) (junk := ([] : List Value)) hi (qmJ q2 n) hone (fun d hd => by rw [Jg hd]; exact hsz) hs0 og hc
 rw [List.length_replicate] at r1
 exact ⟨_, _, _, p, rfl, ⟨_, rfl, rfl⟩, r1, r2, r3⟩
theorem qwC {t e : TypeId} {x ix : Operand} {s by_ b lo n : Nat} {k : IntKind} {m : Int} (j : Nat) (ho : o.op = .indexAddr t x ix) (hE : ElT P t e s by_) (hx : ρ x = some (.arr b s lo n)) (hix : ρ ix = some (.int k m)) (hm : m = (j : Int)) (hj : j < n) : zE P o ρ (.mref b (lo + j) s 0 []) := qex fun p a w h => by
 have h1 := h x (by rw [ho]; simp [Op.operands]) _ hx
 have h7 := h ix (by rw [ho]; simp [Op.operands]) _ hix
 simp only [Rep] at h1 h7
 obtain ⟨A, c, h1, h2, h3, h4⟩ := h1
 have h4 := h4.resolve_left oa
 subst h4 hm
 obtain ⟨i, hi, hin⟩ := jN.1 hE.size
 refine ⟨.pointer (some ⟨b, (lo + j) * s + 0, none⟩), ?_, by simp only [Rep]⟩
 unfold execOp
 rw [ho]
 simp [h1, h7.1, Instr.indexAt, asIntOf, run_underlying hE.1, sizeOf, typeInfo, hi, hin, hj, zbB, jA]
theorem qAU {s : TypeId} {x : Operand} {f off b i sz' ofs : Nat} {path : List Nat} (ho : o.op = .fieldAddr s x f) (hF : Fld P s f off) (hx : ρ x = some (.mref b i sz' ofs path)) : zE P o ρ (.mref b i sz' (ofs + off) (path ++ [f])) := qex fun p a w h => by
 have h1 := h x (by rw [ho]; simp [Op.operands]) _ hx
 simp only [Rep] at h1
 refine ⟨.pointer (some ⟨b, i * sz' + ofs + off, none⟩), ?_, by simp only [Rep]; rw [jL]⟩
 unfold execOp
 rw [ho]
 simp [h1, qmX hF]
theorem quC {t e : TypeId} {x : Operand} {n b i s off : Nat} {path : List Nat} {σ : St} {l : List D} {d0 : D} (ho : o.op = .load t x) (hx : ρ x = some (.mref b i s off path)) (hσ : .arr b l e s ∈ σ) (hl : l[i]? = some d0) (hs : yX d0 path = some d) (hoff : yv d0 path = off) (ht : Ty P t d.isAgg n) (hn : sz d = n) : zA P o ρ σ fun d' σ' => d' = d ∧ σ' = σ := fun K p a w hi h => by
 have h1 := h x (by rw [ho]; simp [Op.operands]) _ hx
 simp only [Rep] at h1
 obtain ⟨g1, g2, g0, g3⟩ := hi.ok _ hσ
 obtain ⟨xs, junk, g3, g4, g5, g6⟩ := g3.resolve_left (fun h => by rw [h] at hl; simp at hl)
 obtain ⟨v0, hv0, hc0⟩ := g3.at_cell hl
 obtain ⟨v, hv, hc⟩ := qj8 hv0 hs
 have hmin : (l.take i).length = i := by have := (ju.1 hl).1; simp; omega
 rw [(g1.take i).szs, hmin] at hc0
 have hlr := qiu (P := P) (b := b) (o := i * s + off) ht hn hv (fun j y hy => by
  rw [cell_of_row _ _ _ _ _ _ g5, ← hoff]
  have := hc0 _ y (hc j y hy)
  have hlt := (ju.1 this).1
  simp only [vX]
  rw [jL, jT hlt]
  exact this)
 have hr : (execOp a.eval o).run P w = .ok (.value v) w := by
  unfold execOp
  rw [ho]
  simp [h1, Instr.loadAt, Instr.sureAddr, hlr]
 unfold Oper.wp
 rw [hr]
 exact ⟨v, d, σ, p, rfl, ⟨rfl, rfl⟩, hv, hi, zT.refl p w⟩
theorem qAi {t e : TypeId} {x y : Operand} {n b i s off : Nat} {path : List Nat} {σ : St} (τ : St) {l : List D} {d0 dOld dn : D} {ag : Bool} (ho : o.op = .store t x y) (hx : ρ x = some (.mref b i s off path)) (hy : ρ y = some dn) (hw : Wk dn d) (hσ : σ.Perm (.arr b l e s :: τ)) (hl : l[i]? = some d0) (hp0 : d0.plain = true) (hs : yX d0 path = some dOld) (hoff : yv d0 path = off) (ht : Ty P t ag n) (hn : sz d = n) (hn' : sz dOld = n) (hp : d.plain = true) : zA P o ρ σ fun _ σ' => σ' = .arr b (l.set i (zaN d0 path d)) e s :: τ := fun K p a w hi h => by
 have h1 := h x (by rw [ho]; simp [Op.operands]) _ hx
 simp only [Rep] at h1
 have h2 := hw _ _ _ (h y (by rw [ho]; simp [Op.operands]) _ hy)
 have hi' := hi.perm hσ
 obtain ⟨g1, g2, g0, g3⟩ := hi'.ok _ (jc ..)
 obtain ⟨xs, junk, g3, g4, g5, g6⟩ := g3.resolve_left (fun h => by rw [h] at hl; simp at hl)
 obtain ⟨ii, hii, hin⟩ := jN.1 ht.2
 have hsz : (a.eval y).cells.size = n := by rw [Rep.sz h2, hn]
 have hil := (ju.1 hl).1
 have hmin : (l.take i).length = i := by simp; omega
 obtain ⟨v0, hv0, hsplit, hlen1⟩ := g3.at_ hl
 obtain ⟨v', q1, q2, q3, q4, q5⟩ := qoH hv0 hs (by rw [hn, hn']) h2 hp hp0
 have hset := zu.set g3 hl q5 q1
 rw [(g1.take i).szs, hmin] at hsplit hlen1 hset
 have hd0 : sz d0 = s := g1 d0 (List.mem_of_getElem? hl)
 have hv0l : v0.cells.toList.length = s := by rw [← hd0]; simpa using Rep.sz hv0
 have hxl : xs.length = l.length * s := by rw [g3.len, g1.szs]
 have hle : (i + 1) * s ≤ l.length * s := jK s oa
 rw [jA, jU] at hle
 have hst := run_storeCells_at (P := P) b (i * s + off) e (a.eval y).cells.toList 0 (xs ++ junk).toArray w g5 (by
  simp only [jY, hsz, j9, vb, jb]
  rw [hd0, hn, hoff] at q4
  omega) (Rep.one h2 hp)
 -- what the block holds now
 have hrow : ((xs ++ junk).toArray.toList.take (i * s + off + 0) ++ (a.eval y).cells.toList ++ (xs ++ junk).toArray.toList.drop (i * s + off + 0 + (a.eval y).cells.toList.length)).toArray = ((xs.take (i * s) ++ v'.cells.toList ++ xs.drop (i * s + s)) ++ junk).toArray := by
  congr 1
  simp only [j9, jY, hsz, ← hn]
  rw [q3, hoff]
  rw [hd0, hoff] at q4
  generalize hA : xs.take (i * s) = A at hsplit hlen1 ⊢
  generalize hB : xs.drop (i * s + s) = B
  rw [hd0, hB] at hsplit
  rw [hsplit]
  have e1 : (A ++ v0.cells.toList ++ B ++ junk).take (i * s + off) = A ++ v0.cells.toList.take off := by
   rw [← hlen1, jk, jk, ve, Je oa]
  have e2 : (A ++ v0.cells.toList ++ B ++ junk).drop (i * s + off + sz d) = v0.cells.toList.drop (off + sz d) ++ (B ++ junk) := by
   rw [← hlen1, jk, jk, jL, vd, Jf oa]
  rw [e1, e2]
  simp only [jk]
 rw [hrow] at hst
 have hr : (execOp a.eval o).run P w = .ok .skip (w.setRow b ((xs.take (i * s) ++ v'.cells.toList ++ xs.drop (i * s + s)) ++ junk).toArray) := by
  unfold execOp
  rw [ho]
  simp only [h1, Instr.storeAt, Instr.sureAddr, storeVar, Sem.run_bind, Sem.run_pure, Result.andThen_ok, sizeOf, typeInfo, run_program, hii, hsz, hin, ne_eq, not_true_eq_false, if_false, hst]
 have hcell : ∀ a', p a' → (w.setRow b ((xs.take (i * s) ++ v'.cells.toList ++ xs.drop (i * s + s)) ++ junk).toArray).cell? a' = w.cell? a' := fun a' ha => qiJ (setRow_other w b _ _ (g6 a' ha))
 have gr : zT p w p (w.setRow b ((xs.take (i * s) ++ v'.cells.toList ++ xs.drop (i * s + s)) ++ junk).toArray) := fun a' ha => ⟨ha, hcell a' ha⟩
 have hblk : ∀ l' : List D, l'.length = l.length → (Ob.arr b l' e s).blk = some b := fun l' hl' => by
  cases l' with
  | nil => simp at hl'; omega
  | cons => rfl
 unfold Oper.wp
 rw [hr]
 refine ⟨Go.undef, .undef, _, p, rfl, rfl, by simp only [Rep], ?_, gr⟩
 rw [q5, hd0] at hset
 refine hi'.write (b := b) (hblk l rfl) (hblk _ og) gr (fun a' ha => .inl ha) ⟨fun e' he' => ?_, by simpa using g2, g0, .inr ⟨_, junk, hset.grow gr, fun u hu => ?_, setRow_heap w b _ _ _ _ g5, g6⟩⟩ (fun a' ha => ?_) rfl rfl rfl og fun k hk => setRow_other w b k _ hk
 rcases vZ he' with h | rfl
 exact g1 e' h
 rw [q5, hd0]
 rcases jj.1 hu with hu | hu
 rcases jj.1 hu with hu | hu
 exact g4 u (j4 hu)
 exact Rep.one q1 q2 u hu
 exact g4 u (jW hu)
 obtain ⟨u, hu⟩ := hi.pub a' ha
 exact ⟨u, by rw [hcell a' ha]; exact hu⟩
theorem qu2 {m : Md} {f : FuncId} {fn : Func} {K : Ctx} {R : D → St → Prop} {k : List Item} {env : Env} {σ τ : St} {e : TypeId} {b s n : Nat} {l : List D} (t : Nat) (hs : lk env t = some (.arr b s 0 n)) (hσ : σ.Perm (.arr b l e s :: τ)) (hn : n = l.length) (h : zj m P f fn K R k ((t, .lst l) :: env) τ) : zj m P f fn K R k env σ := fun p a w hi hr hnt hd => by
 have hi' := hi.perm hσ
 subst hn
 obtain ⟨g1, g2, g0, g3⟩ := hi'.ok _ (jc ..)
 have hv := hr t _ hs
 simp only [Rep] at hv
 obtain ⟨A, c, hv, hc1, hc2, hA⟩ := hv
 have step : ∀ p', zT p w p' w → Inv K p' τ w → Rep p' w (.lst l) (.slice A l.length c) → Rest m P f fn K R k a w := fun p' g hi2 hrep => h p' a w hi2 (fun t' d' ht' => by
  rw [qhX] at ht'
  by_cases htt : t = t'
  subst htt
  rw [if_pos rfl] at ht'
  injection ht' with ht'
  subst ht'
  rw [hv]
  exact hrep
  rw [if_neg htt] at ht'
  exact (hr t' d' ht').grow g) hnt hd
 by_cases hl0 : l = []
 subst hl0
 refine step p (zT.refl p w) hi'.tail ?_
 simp only [Rep]
 exact ⟨A, c, [], rfl, hc1, hc2, .inl rfl, zu.nil _ _, by simp⟩
 obtain ⟨xs, junk, g3, g4, g5, g6⟩ := g3.resolve_left hl0
 have hA' := hA.resolve_left (fun h => hl0 (jz h))
 have hblk : (Ob.arr b l e s).blk = some b := by
  cases l with
  | nil => exact absurd rfl hl0
  | cons => rfl
 have hbl : b < w.heap.size := (jD.1 g5).1
 have hm := hi'.mine b (qg1.2 ⟨_, jc .., hblk⟩)
 have hnd := hi'.nd
 have hne : b ∉ yM τ := by
  simp only [yM, vt, hblk, jQ] at hnd
  exact hnd.1
 have hcell : ∀ j u, xs[j]? = some u → w.cell? ⟨b, 0 + j, none⟩ = some u := fun j u hu => by
  rw [jx, cell_of_row _ _ _ _ _ _ g5]
  have := (ju.1 hu).1
  simp only [vX]
  rw [jT this]
  exact hu
 have hg := hi'.tail.give (fun a' => a'.block = b ∧ a'.spot = none ∧ a'.off < xs.length) fun a' ⟨e1, e2, e3⟩ => by
  obtain ⟨b', of, sp⟩ := a'
  simp only at e1 e2 e3
  subst e1 e2
  refine ⟨⟨xs[of], ?_⟩, hm, fun o' ho b' hb hab => ?_⟩
  have := hcell of xs[of] og
  simpa using this
  simp only at hab
  subst hab
  exact absurd (qg1.2 ⟨o', ho, hb⟩) hne
 refine step _ (qkT p _ w) hg ?_
 simp only [Rep]
 refine ⟨A, c, xs, rfl, hc1, hc2, .inr ⟨b, 0, by rw [hA']; simp, fun j u hu => ⟨.inr ⟨rfl, rfl, ?_⟩, hcell j u hu⟩⟩, g3.grow (qkT p _ w), g4⟩
 have := (ju.1 hu).1
 simp only
 omega
theorem qnj {t e : TypeId} {parts : Array (Nat × Operand)} {s by_ : Nat} {σ : St} (ho : o.op = .buildSlice t 0 parts) (hE : ElT P t e s by_) (hps : parts.toList = []) : zA P o ρ σ fun d' σ' => ∃ u, d' = .own u [] ∧ σ' = .row u 0 e s :: σ := fun K p a w hi h => by
 obtain ⟨i, hii, hzz⟩ := jN.1 hE.size
 have hr : (execOp a.eval o).run P w = .ok (.value (.slice (some ⟨w.heap.size, 0, none⟩) 0 0)) (w.alloc (.cells #[] e)) := by
  unfold execOp
  rw [ho]
  have : parts = #[] := j3.1 (by simpa using hps)
  subst this
  have e0 : Array.range 0 = #[] := rfl
  simp [Instr.buildSlice, run_underlying hE.1, sizeOf, typeInfo, hii, Instr.fill, newRow, e0]
 unfold Oper.wp
 rw [hr]
 obtain ⟨p', q1, q2, q3⟩ := qs1 (K := K) (p := p) (σ := σ) (w := w) (cur := #[]) (e := e) (s := s) (n := 0) (cap := 0) (l := []) (xs := []) hi og og (zu.nil _ _) og rfl (jn _) (by unfold maxLen; omega)
 exact ⟨_, _, _, p', rfl, ⟨_, rfl, rfl⟩, q1, q2, q3⟩
theorem qsi (d x : D) : zaN d [] x = x := by cases d <;> rfl
theorem qgk {t : TypeId} {x y : Operand} {n b : Nat} {σ : St} (τ : St) {d0 e : D} {ag : Bool} (ho : o.op = .store t x y) (hx : ρ x = some (.ref b 0 [])) (hy : ρ y = some e) (hw : Wk e d) (hσ : σ.Perm (.cell b d0 :: τ)) (ht : Ty P t ag n) (hn : sz d = n) (hn' : sz d0 = n) (hp : d.plain = true) : zA P o ρ σ fun _ σ' => σ' = .cell b d :: τ := by
 have h := qds (P := P) (d := d) τ ho hx hy hw hσ (show yX d0 [] = some d0 by cases d0 <;> rfl) (by cases d0 <;> rfl) ht hn hn' hp
 rw [qsi] at h
 exact h
end
theorem qhW {m : Md} {P : Program} {X : Env → D → St → Prop} {f : FuncId} {fn : Func} {K : Ctx} {R : D → St → Prop} {k : List Item} {env : Env} {σ : St} {l : List Oper} {rest : List (Nat × Cls)} (s : Nat) (v : Bool) {b : Bool} (hs : lk env s = some (.bool b)) (hb : b = v) (h : Run P l.toArray X (zj m P f fn K R k) rest ((s, .bool v) :: env) σ) : Run P l.toArray X (zj m P f fn K R k) rest env σ := by
 subst hb
 cases b with
 | true => exact qsp s hs (fun _ => h) fun h' => by cases h'
 | false => exact qsp s hs (fun h' => by cases h') fun _ => h
theorem qp0 {m : Md} {P : Program} {f : FuncId} {fn : Func} {K : Ctx} {R : D → St → Prop} {k : List Item} {env : Env} {σ : St} (s : Nat) (v : Bool) {b : Bool} (hs : lk env s = some (.bool b)) (hb : b = v) (h : zj m P f fn K R k ((s, .bool v) :: env) σ) : zj m P f fn K R k env σ := by
 subst hb
 cases b with
 | true => exact qsr s hs (fun _ => h) fun h' => by cases h'
 | false => exact qsr s hs (fun h' => by cases h') fun _ => h
theorem qfh {m : Md} {P : Program} {f : FuncId} {fn : Func} {K : Ctx} {R : D → St → Prop} {k : List Item} {env : Env} {σ : St} {c : Operand} {x y : Code} (hc : ev env c = some (.bool true)) (h : zj m P f fn K R (.code x :: k) env σ) : zj m P f fn K R (.code (.cond c x y) :: k) env σ := by
 cases c with
 | tmp t => exact qrm hc rfl (fun _ => h) fun h => by cases h
 | const v => exact qrm hc (by cases v <;> first | rfl | (simp [ev, zaC] at hc)) (fun _ => h) fun h => by cases h
 | global g => cases hc
 | func f => cases hc
theorem qf4 {m : Md} {P : Program} {f : FuncId} {fn : Func} {K : Ctx} {R : D → St → Prop} {k : List Item} {env : Env} {σ : St} {c : Operand} {x y : Code} (hc : ev env c = some (.bool false)) (h : zj m P f fn K R (.code y :: k) env σ) : zj m P f fn K R (.code (.cond c x y) :: k) env σ := by
 cases c with
 | tmp t => exact qrm hc rfl (fun h => by cases h) fun _ => h
 | const v => exact qrm hc (by cases v <;> first | rfl | (simp [ev, zaC] at hc)) (fun h => by cases h) fun _ => h
 | global g => cases hc
 | func f => cases hc
theorem qAa : Ty Tryz.prog 2 false 1 := ⟨⟨_, Tryz.underlying2, rfl⟩, by kernel_rfl⟩
theorem qfp : Ty Tryz.prog 3 false 1 := ⟨⟨_, Tryz.underlying3, rfl⟩, by kernel_rfl⟩
theorem qyg : Ty Tryz.prog 4 false 1 := ⟨⟨_, Tryz.underlying4, rfl⟩, by kernel_rfl⟩
theorem qAd : Ty Tryz.prog 5 false 1 := ⟨⟨_, Tryz.underlying5, rfl⟩, by kernel_rfl⟩
theorem qm4 : Ty Tryz.prog 9 false 1 := ⟨⟨_, Tryz.underlying9, rfl⟩, by kernel_rfl⟩
theorem qxf : Ty Tryz.prog 12 false 1 := ⟨⟨_, Tryz.underlying12, rfl⟩, by kernel_rfl⟩
theorem qlY : Ty Tryz.prog 17 false 1 := ⟨⟨_, Tryz.underlying17, rfl⟩, by kernel_rfl⟩
theorem qAZ : Ty Tryz.prog 21 false 1 := ⟨⟨_, Tryz.underlying21, rfl⟩, by kernel_rfl⟩
theorem qjb : Ty Tryz.prog 35 false 1 := ⟨⟨_, Tryz.underlying35, rfl⟩, by kernel_rfl⟩
theorem qd3 : ElT Tryz.prog 35 50 3 48 := .of Tryz.underlying35 ob od
theorem qh5 : Ty Tryz.prog 46 false 1 := ⟨⟨_, Tryz.underlying46, rfl⟩, by kernel_rfl⟩
theorem qba : ElT Tryz.prog 46 78 4 56 := .of Tryz.underlying46 ob od
theorem qix : Ty Tryz.prog 48 true 2 := ⟨⟨_, Tryz.underlying48, rfl⟩, by kernel_rfl⟩
theorem qm6 : Fld Tryz.prog 48 0 0 := ⟨_, _, 1, Tryz.underlying48, rfl, rfl, by kernel_rfl, by decide⟩
theorem qnt : Fld Tryz.prog 48 1 1 := ⟨_, _, 1, Tryz.underlying48, rfl, rfl, by kernel_rfl, by decide⟩
theorem qjH : zQ Tryz.prog 48 [.str ⟨#[]⟩, .lst []] := .mk rfl ob Tryz.underlying48 ob
theorem qfQ : z7 Tryz.prog 48 (.agg [.str ⟨#[]⟩, .lst []]) := .agg qjH
theorem qus : Ty Tryz.prog 50 true 3 := ⟨⟨_, Tryz.underlying50, rfl⟩, by kernel_rfl⟩
theorem qsk : Fld Tryz.prog 50 0 0 := ⟨_, _, 1, Tryz.underlying50, rfl, rfl, by kernel_rfl, by decide⟩
theorem qsu : Fld Tryz.prog 50 1 1 := ⟨_, _, 2, Tryz.underlying50, rfl, rfl, by kernel_rfl, by decide⟩
theorem qoY : zQ Tryz.prog 50 [.int .i64 0, .agg [.str ⟨#[]⟩, .lst []]] := .mk rfl ob Tryz.underlying50 ob
theorem qtF : Ty Tryz.prog 27 false 1 := ⟨⟨_, Tryz.underlying27, rfl⟩, by kernel_rfl⟩
theorem qub : Ty Tryz.prog 67 true 2 := ⟨⟨_, Tryz.underlying67, rfl⟩, by kernel_rfl⟩
theorem qrY : Fld Tryz.prog 67 0 0 := ⟨_, _, 1, Tryz.underlying67, rfl, rfl, by kernel_rfl, by decide⟩
theorem qsL : Fld Tryz.prog 67 1 1 := ⟨_, _, 1, Tryz.underlying67, rfl, rfl, by kernel_rfl, by decide⟩
theorem qvh : zQ Tryz.prog 67 [.str ⟨#[]⟩, .int .i64 0] := .mk rfl ob Tryz.underlying67 ob
theorem qua : z7 Tryz.prog 67 (.agg [.str ⟨#[]⟩, .int .i64 0]) := .agg qvh
theorem qnq : Ty Tryz.prog 60 false 1 := ⟨⟨_, Tryz.underlying60, rfl⟩, by kernel_rfl⟩
theorem qcO : ElT Tryz.prog 60 3 1 8 := .of Tryz.underlying60 ob od
theorem qsN : Ty Tryz.prog 36 false 1 := ⟨⟨_, Tryz.underlying36, rfl⟩, by kernel_rfl⟩
theorem qgg : ElT Tryz.prog 36 165 5 64 := .of Tryz.underlying36 ob od
theorem qn1 : Ty Tryz.prog 37 false 1 := ⟨⟨_, Tryz.underlying37, rfl⟩, by kernel_rfl⟩
theorem qeu : ElT Tryz.prog 37 165 5 64 := .of Tryz.underlying37 ob od
theorem qdy : Ty Tryz.prog 78 true 4 := ⟨⟨_, Tryz.underlying78, rfl⟩, by kernel_rfl⟩
theorem qcn : Fld Tryz.prog 78 0 0 := ⟨_, _, 1, Tryz.underlying78, rfl, rfl, by kernel_rfl, by decide⟩
theorem qcP : Fld Tryz.prog 78 1 1 := ⟨_, _, 1, Tryz.underlying78, rfl, rfl, by kernel_rfl, by decide⟩
theorem qfO : Fld Tryz.prog 78 2 2 := ⟨_, _, 1, Tryz.underlying78, rfl, rfl, by kernel_rfl, by decide⟩
theorem qcB : Fld Tryz.prog 78 3 3 := ⟨_, _, 1, Tryz.underlying78, rfl, rfl, by kernel_rfl, by decide⟩
theorem qgd : zQ Tryz.prog 78 [.int .i64 0, .int .i64 0, .str ⟨#[]⟩, .lst []] := .mk rfl ob Tryz.underlying78 ob
theorem qeH : z7 Tryz.prog 78 (.agg [.int .i64 0, .int .i64 0, .str ⟨#[]⟩, .lst []]) := .agg qgd
theorem qit : Ty Tryz.prog 55 true 3 := ⟨⟨_, Tryz.underlying55, rfl⟩, by kernel_rfl⟩
theorem qsa : Fld Tryz.prog 55 0 0 := ⟨_, _, 1, Tryz.underlying55, rfl, rfl, by kernel_rfl, by decide⟩
theorem qnb : Fld Tryz.prog 55 1 1 := ⟨_, _, 1, Tryz.underlying55, rfl, rfl, by kernel_rfl, by decide⟩
theorem qnc : Fld Tryz.prog 55 2 2 := ⟨_, _, 1, Tryz.underlying55, rfl, rfl, by kernel_rfl, by decide⟩
theorem qjm : zQ Tryz.prog 55 [.int .i64 0, .str ⟨#[]⟩, .lst []] := .mk rfl ob Tryz.underlying55 ob
theorem qiw : z7 Tryz.prog 55 (.agg [.int .i64 0, .str ⟨#[]⟩, .lst []]) := .agg qjm
theorem qsC : Ty Tryz.prog 26 false 1 := ⟨⟨_, Tryz.underlying26, rfl⟩, by kernel_rfl⟩
theorem qfL : ElT Tryz.prog 26 55 3 48 := .of Tryz.underlying26 ob od
theorem qjk : Ty Tryz.prog 165 true 5 := ⟨⟨_, Tryz.underlying165, rfl⟩, by kernel_rfl⟩
theorem qsJ : Fld Tryz.prog 165 0 0 := ⟨_, _, 1, Tryz.underlying165, rfl, rfl, by kernel_rfl, by decide⟩
theorem qsh : Fld Tryz.prog 165 1 1 := ⟨_, _, 4, Tryz.underlying165, rfl, rfl, by kernel_rfl, by decide⟩
theorem qlL : zQ Tryz.prog 165 [.int .i64 0, .agg [.int .i64 0, .int .i64 0, .str ⟨#[]⟩, .lst []]] := .mk rfl ob Tryz.underlying165 ob
theorem qpd : z7 Tryz.prog 165 (.agg [.int .i64 0, .agg [.int .i64 0, .int .i64 0, .str ⟨#[]⟩, .lst []]]) := .agg qlL
theorem qoy : Ty Tryz.prog 156 false 1 := ⟨⟨_, Tryz.underlying156, rfl⟩, by kernel_rfl⟩
theorem qqs : Ty Tryz.prog 158 true 1 := ⟨⟨_, Tryz.underlying158, rfl⟩, by kernel_rfl⟩
theorem qoq : Fld Tryz.prog 158 0 0 := ⟨_, _, 1, Tryz.underlying158, rfl, rfl, by kernel_rfl, by decide⟩
theorem qsd : Ty Tryz.prog 219 false 1 := ⟨⟨_, Tryz.underlying219, rfl⟩, by kernel_rfl⟩
theorem qpr : Ty Tryz.prog 187 false 1 := ⟨⟨_, Tryz.underlying187, rfl⟩, by kernel_rfl⟩
theorem qCw : Ty Tryz.prog 263 false 1 := ⟨⟨_, Tryz.underlying263, rfl⟩, by kernel_rfl⟩
theorem qxn : Ty Tryz.prog 264 false 1 := ⟨⟨_, Tryz.underlying264, rfl⟩, by kernel_rfl⟩
theorem qwU : Ty Tryz.prog 276 false 1 := ⟨⟨_, Tryz.underlying276, rfl⟩, by kernel_rfl⟩
theorem qB0 : Ty Tryz.prog 154 true 0 := ⟨⟨_, Tryz.underlying154, rfl⟩, by kernel_rfl⟩
theorem qx0 : zQ Tryz.prog 154 [] := .mk rfl ob Tryz.underlying154 ob
theorem qCF : z7 Tryz.prog 154 (.agg []) := .agg qx0
theorem qr8 : Ty Tryz.prog 22 false 1 := ⟨⟨_, Tryz.underlying22, rfl⟩, by kernel_rfl⟩
theorem qni : ElT Tryz.prog 22 67 2 24 := .of Tryz.underlying22 ob od
theorem qns : Ty Tryz.prog 23 false 1 := ⟨⟨_, Tryz.underlying23, rfl⟩, by kernel_rfl⟩
theorem qid : ElT Tryz.prog 23 64 6 120 := .of Tryz.underlying23 ob od
theorem qmM : Ty Tryz.prog 25 true 2 := ⟨⟨_, Tryz.underlying25, rfl⟩, by kernel_rfl⟩
theorem qol : Fld Tryz.prog 25 0 0 := ⟨_, _, 1, Tryz.underlying25, rfl, rfl, by kernel_rfl, by decide⟩
theorem qlQ : Fld Tryz.prog 25 1 1 := ⟨_, _, 1, Tryz.underlying25, rfl, rfl, by kernel_rfl, by decide⟩
theorem qku : zQ Tryz.prog 25 [.lst [], .lst []] := .mk rfl ob Tryz.underlying25 ob
theorem qiy : z7 Tryz.prog 25 (.agg [.lst [], .lst []]) := .agg qku
theorem qnr : Ty Tryz.prog 53 false 1 := ⟨⟨_, Tryz.underlying53, rfl⟩, by kernel_rfl⟩
theorem qd5 : ElT Tryz.prog 53 48 2 40 := .of Tryz.underlying53 ob od
theorem qlg : Ty Tryz.prog 64 true 6 := ⟨⟨_, Tryz.underlying64, rfl⟩, by kernel_rfl⟩
theorem qsW : Fld Tryz.prog 64 0 0 := ⟨_, _, 1, Tryz.underlying64, rfl, rfl, by kernel_rfl, by decide⟩
theorem qmZ : Fld Tryz.prog 64 1 1 := ⟨_, _, 1, Tryz.underlying64, rfl, rfl, by kernel_rfl, by decide⟩
theorem qr4 : Fld Tryz.prog 64 2 2 := ⟨_, _, 1, Tryz.underlying64, rfl, rfl, by kernel_rfl, by decide⟩
theorem qsK : Fld Tryz.prog 64 3 3 := ⟨_, _, 1, Tryz.underlying64, rfl, rfl, by kernel_rfl, by decide⟩
theorem qr3 : Fld Tryz.prog 64 4 4 := ⟨_, _, 1, Tryz.underlying64, rfl, rfl, by kernel_rfl, by decide⟩
theorem qr1 : Fld Tryz.prog 64 5 5 := ⟨_, _, 1, Tryz.underlying64, rfl, rfl, by kernel_rfl, by decide⟩
theorem qlm : zQ Tryz.prog 64 [.str ⟨#[]⟩, .lst [], .lst [], .lst [], .lst [], .int .i64 0] := .mk rfl ob Tryz.underlying64 ob
theorem qgX : z7 Tryz.prog 64 (.agg [.str ⟨#[]⟩, .lst [], .lst [], .lst [], .lst [], .int .i64 0]) := .agg qlm
theorem qj0 : Ty Tryz.prog 128 false 1 := ⟨⟨_, Tryz.underlying128, rfl⟩, by kernel_rfl⟩
theorem qgW : ElT Tryz.prog 128 94 3 24 := .of Tryz.underlying128 ob od
theorem qtL : z7 Tryz.prog 128 (.lst []) := .val (.slice none 0 0) rfl ob rfl
theorem qnW : Ty Tryz.prog 94 true 3 := ⟨⟨_, Tryz.underlying94, rfl⟩, by kernel_rfl⟩
theorem qtM : Fld Tryz.prog 94 0 0 := ⟨_, _, 1, Tryz.underlying94, rfl, rfl, by kernel_rfl, by decide⟩
theorem qtX : Fld Tryz.prog 94 1 1 := ⟨_, _, 1, Tryz.underlying94, rfl, rfl, by kernel_rfl, by decide⟩
theorem qtZ : Fld Tryz.prog 94 2 2 := ⟨_, _, 1, Tryz.underlying94, rfl, rfl, by kernel_rfl, by decide⟩
theorem qnC : zQ Tryz.prog 94 [.int .i64 0, .int .i64 0, .bool false] := .mk rfl ob Tryz.underlying94 ob
theorem qrk : z7 Tryz.prog 94 (.agg [.int .i64 0, .int .i64 0, .bool false]) := .agg qnC
theorem qss : Ty Tryz.prog 56 false 1 := ⟨⟨_, Tryz.underlying56, rfl⟩, by kernel_rfl⟩
theorem qrO : ElT Tryz.prog 56 103 3 48 := .of Tryz.underlying56 ob od
theorem qmU : Ty Tryz.prog 124 false 1 := ⟨⟨_, Tryz.underlying124, rfl⟩, by kernel_rfl⟩
theorem qlX : Ty Tryz.prog 91 false 1 := ⟨⟨_, Tryz.underlying91, rfl⟩, by kernel_rfl⟩
theorem qgz : ElT Tryz.prog 91 96 9 144 := .of Tryz.underlying91 ob od
theorem qiY : Ty Tryz.prog 96 true 9 := ⟨⟨_, Tryz.underlying96, rfl⟩, by kernel_rfl⟩
theorem qlV : Fld Tryz.prog 96 0 0 := ⟨_, _, 3, Tryz.underlying96, rfl, rfl, by kernel_rfl, by decide⟩
theorem ql7 : Fld Tryz.prog 96 1 3 := ⟨_, _, 6, Tryz.underlying96, rfl, rfl, by kernel_rfl, by decide⟩
theorem qiZ : zQ Tryz.prog 96 [.agg [.int .i64 0, .int .i64 0, .bool false], .agg [.str ⟨#[]⟩, .lst [], .lst [], .lst [], .lst [], .int .i64 0]] := .mk rfl ob Tryz.underlying96 ob
theorem qmF : z7 Tryz.prog 96 (.agg [.agg [.int .i64 0, .int .i64 0, .bool false], .agg [.str ⟨#[]⟩, .lst [], .lst [], .lst [], .lst [], .int .i64 0]]) := .agg qiZ
theorem qvg : Ty Tryz.prog 103 true 3 := ⟨⟨_, Tryz.underlying103, rfl⟩, by kernel_rfl⟩
theorem qsA : Fld Tryz.prog 103 0 0 := ⟨_, _, 1, Tryz.underlying103, rfl, rfl, by kernel_rfl, by decide⟩
theorem qsM : Fld Tryz.prog 103 1 1 := ⟨_, _, 1, Tryz.underlying103, rfl, rfl, by kernel_rfl, by decide⟩
theorem qsn : Fld Tryz.prog 103 2 2 := ⟨_, _, 1, Tryz.underlying103, rfl, rfl, by kernel_rfl, by decide⟩
theorem qqh : Ty Tryz.prog 190 false 1 := ⟨⟨_, Tryz.underlying190, rfl⟩, by kernel_rfl⟩
theorem qtI : Ty Tryz.prog 192 true 2 := ⟨⟨_, Tryz.underlying192, rfl⟩, by kernel_rfl⟩
theorem qqz : Fld Tryz.prog 192 0 0 := ⟨_, _, 1, Tryz.underlying192, rfl, rfl, by kernel_rfl, by decide⟩
theorem qqv : Fld Tryz.prog 192 1 1 := ⟨_, _, 1, Tryz.underlying192, rfl, rfl, by kernel_rfl, by decide⟩
theorem qq0 : Ty Tryz.prog 216 false 1 := ⟨⟨_, Tryz.underlying216, rfl⟩, by kernel_rfl⟩
theorem ql3 : callee Tryz.prog 78 := ⟨_, _, Tryz.func78, rfl, by decide⟩
theorem qga : callee Tryz.prog 102 := ⟨_, _, Tryz.func102, rfl, by decide⟩
theorem qkd : callee Tryz.prog 148 := ⟨_, _, Tryz.func148, rfl, by decide⟩
theorem qgj : callee Tryz.prog 109 := ⟨_, _, Tryz.func109, rfl, by decide⟩
theorem qky : callee Tryz.prog 114 := ⟨_, _, Tryz.func114, rfl, by decide⟩
theorem qhC : callee Tryz.prog 103 := ⟨_, _, Tryz.func103, rfl, by decide⟩
theorem qgv : callee Tryz.prog 106 := ⟨_, _, Tryz.func106, rfl, by decide⟩
theorem qeX : callee Tryz.prog 136 := ⟨_, _, Tryz.func136, rfl, by decide⟩
theorem qfj : callee Tryz.prog 184 := ⟨_, _, Tryz.func184, rfl, by decide⟩
theorem qhD : callee Tryz.prog 165 := ⟨_, _, Tryz.func165, rfl, by decide⟩
theorem qi9 : callee Tryz.prog 142 := ⟨_, _, Tryz.func142, rfl, by decide⟩
theorem qjA : callee Tryz.prog 168 := ⟨_, _, Tryz.func168, rfl, by decide⟩
theorem qfn : callee Tryz.prog 113 := ⟨_, _, Tryz.func113, rfl, by decide⟩
theorem qey : callee Tryz.prog 47 := ⟨_, _, Tryz.func47, rfl, by decide⟩
theorem qdM : callee Tryz.prog 95 := ⟨_, _, Tryz.func95, rfl, by decide⟩
theorem qk5 : callee Tryz.prog 133 := ⟨_, _, Tryz.func133, rfl, by decide⟩
theorem ql2 : callee Tryz.prog 27 := ⟨_, _, Tryz.func27, rfl, by decide⟩
theorem qec : callee Tryz.prog 26 := ⟨_, _, Tryz.func26, rfl, by decide⟩
theorem qiq : callee Tryz.prog 28 := ⟨_, _, Tryz.func28, rfl, by decide⟩
theorem qgr : callee Tryz.prog 96 := ⟨_, _, Tryz.func96, rfl, by decide⟩
theorem qfi : callee Tryz.prog 141 := ⟨_, _, Tryz.func141, rfl, by decide⟩
theorem qhI : callee Tryz.prog 17 := ⟨_, _, Tryz.func17, rfl, by decide⟩
theorem qlI : callee Tryz.prog 58 := ⟨_, _, Tryz.func58, rfl, by decide⟩
theorem ql6 : callee Tryz.prog 128 := ⟨_, _, Tryz.func128, rfl, by decide⟩
theorem qlz : callee Tryz.prog 94 := ⟨_, _, Tryz.func94, rfl, by decide⟩
theorem qjM : callee Tryz.prog 154 := ⟨_, _, Tryz.func154, rfl, by decide⟩
theorem qb2 : callee Tryz.prog 9 := ⟨_, _, Tryz.func9, rfl, by decide⟩
theorem qjl : callee Tryz.prog 30 := ⟨_, _, Tryz.func30, rfl, by decide⟩
theorem qfe : callee Tryz.prog 108 := ⟨_, _, Tryz.func108, rfl, by decide⟩
theorem qia : callee Tryz.prog 12 := ⟨_, _, Tryz.func12, rfl, by decide⟩
theorem qmI : callee Tryz.prog 31 := ⟨_, _, Tryz.func31, rfl, by decide⟩
theorem qif : callee Tryz.prog 70 := ⟨_, _, Tryz.func70, rfl, by decide⟩
theorem qmg : callee Tryz.prog 110 := ⟨_, _, Tryz.func110, rfl, by decide⟩
theorem qhG : callee Tryz.prog 5 := ⟨_, _, Tryz.func5, rfl, by decide⟩
theorem qi5 : callee Tryz.prog 19 := ⟨_, _, Tryz.func19, rfl, by decide⟩
theorem qiO : callee Tryz.prog 8 := ⟨_, _, Tryz.func8, rfl, by decide⟩
theorem qeN : callee Tryz.prog 18 := ⟨_, _, Tryz.func18, rfl, by decide⟩
theorem qeV : callee Tryz.prog 62 := ⟨_, _, Tryz.func62, rfl, by decide⟩
theorem qgR : callee Tryz.prog 29 := ⟨_, _, Tryz.func29, rfl, by decide⟩
theorem qkp : callee Tryz.prog 63 := ⟨_, _, Tryz.func63, rfl, by decide⟩
theorem qot : callee Tryz.prog 64 := ⟨_, _, Tryz.func64, rfl, by decide⟩
theorem qgw : callee Tryz.prog 65 := ⟨_, _, Tryz.func65, rfl, by decide⟩
theorem qnM : callee Tryz.prog 66 := ⟨_, _, Tryz.func66, rfl, by decide⟩
theorem qco : callee Tryz.prog 22 := ⟨_, _, Tryz.func22, rfl, by decide⟩
theorem qn5 : callee Tryz.prog 35 := ⟨_, _, Tryz.func35, rfl, by decide⟩
theorem qi3 : callee Tryz.prog 36 := ⟨_, _, Tryz.func36, rfl, by decide⟩
theorem qgY : callee Tryz.prog 37 := ⟨_, _, Tryz.func37, rfl, by decide⟩
theorem qfg : callee Tryz.prog 67 := ⟨_, _, Tryz.func67, rfl, by decide⟩
theorem qor : callee Tryz.prog 68 := ⟨_, _, Tryz.func68, rfl, by decide⟩
theorem qgN : callee Tryz.prog 49 := ⟨_, _, Tryz.func49, rfl, by decide⟩
theorem qfb : callee Tryz.prog 54 := ⟨_, _, Tryz.func54, rfl, by decide⟩
theorem qf6 : callee Tryz.prog 55 := ⟨_, _, Tryz.func55, rfl, by decide⟩
theorem qlh : callee Tryz.prog 56 := ⟨_, _, Tryz.func56, rfl, by decide⟩
theorem qhf : callee Tryz.prog 57 := ⟨_, _, Tryz.func57, rfl, by decide⟩
theorem qhR : callee Tryz.prog 23 := ⟨_, _, Tryz.func23, rfl, by decide⟩
theorem qgh : callee Tryz.prog 24 := ⟨_, _, Tryz.func24, rfl, by decide⟩
theorem qfs : callee Tryz.prog 25 := ⟨_, _, Tryz.func25, rfl, by decide⟩
theorem qjp : callee Tryz.prog 92 := ⟨_, _, Tryz.func92, rfl, by decide⟩
theorem qmj : callee Tryz.prog 93 := ⟨_, _, Tryz.func93, rfl, by decide⟩
theorem qji : callee Tryz.prog 6 := ⟨_, _, Tryz.func6, rfl, by decide⟩
theorem qgH : callee Tryz.prog 81 := ⟨_, _, Tryz.func81, rfl, by decide⟩
theorem qqS : callee Tryz.prog 97 := ⟨_, _, Tryz.func97, rfl, by decide⟩
theorem quS : callee Tryz.prog 80 := ⟨_, _, Tryz.func80, rfl, by decide⟩
theorem qiD : callee Tryz.prog 82 := ⟨_, _, Tryz.func82, rfl, by decide⟩
theorem qhc : callee Tryz.prog 61 := ⟨_, _, Tryz.func61, rfl, by decide⟩
theorem qhx : callee Tryz.prog 20 := ⟨_, _, Tryz.func20, rfl, by decide⟩
theorem qf9 : callee Tryz.prog 7 := ⟨_, _, Tryz.func7, rfl, by decide⟩
theorem qhg : callee Tryz.prog 119 := ⟨_, _, Tryz.func119, rfl, by decide⟩
theorem qsv : callee Tryz.prog 118 := ⟨_, _, Tryz.func118, rfl, by decide⟩
theorem qh2 : callee Tryz.prog 21 := ⟨_, _, Tryz.func21, rfl, by decide⟩
theorem qpf : callee Tryz.prog 151 := ⟨_, _, Tryz.func151, rfl, by decide⟩
mutual
def fsT : T → List D
 | .mk k i s ar => [.int .i64 k, .int .i64 i, .str s, .lst (zax ar)]
def zax : List T → List D
 | [] => []
 | t :: ts => .agg (fsT t) :: zax ts
end
abbrev zl (t : T) : D := .agg (fsT t)
theorem qoO : ∀ (ts : List T), zax ts = ts.map zl
 | [] => rfl
 | t :: ts => by rw [zax, qoO ts]; rfl
theorem qeS (t : T) : fsT t = [.int .i64 t.k, .int .i64 t.i, .str t.s, .lst (t.ar.map zl)] := by
 cases t; simp only [fsT, qoO, T.k, T.i, T.s, T.ar]
theorem qfJ (t : T) : (fsT t)[0]? = some (.int .i64 t.k) := by rw [qeS]; rfl
theorem qgx (t : T) : (fsT t)[1]? = some (.int .i64 t.i) := by rw [qeS]; rfl
theorem qly (t : T) : (fsT t)[2]? = some (.str t.s) := by rw [qeS]; rfl
theorem qg2 (t : T) : (fsT t)[3]? = some (.lst (t.ar.map zl)) := by rw [qeS]; rfl
theorem qfM (t : T) : szs ((fsT t).take 0) = 0 := by rw [qeS]; rfl
theorem qge (t : T) : szs ((fsT t).take 1) = 1 := by rw [qeS]; rfl
theorem qlO (t : T) : szs ((fsT t).take 2) = 2 := by rw [qeS]; rfl
theorem qg7 (t : T) : szs ((fsT t).take 3) = 3 := by rw [qeS]; rfl
theorem qcR (t : T) : sz (zl t) = 4 := by rw [zl, qeS]; rfl
theorem qdK (t : T) : szs (fsT t) = 4 := by rw [qeS]; rfl
def zU (a : At) : D := .agg [.str a.n, .lst (a.ts.map zl)]
def zB (g : Gl) : D := .agg [.int .i64 g.op, .str g.n, .lst (g.ts.map zl)]
def zq (x : Int × T) : D := .agg [.int .i64 x.1, zl x.2]
theorem qfP (x : Int × T) : sz (zq x) = 5 := by
 show 1 + (sz (zl x.2) + 0) = 5
 rw [qcR]
/-! ### to the elder layouts -/
section
variable {p : Addr → Prop} {w : World}
mutual
theorem qDr : ∀ (t : T) (v : Value), Rep p w (zl t) v → ∃ cs, v = .agg cs.toArray ∧ CT w t cs
 | .mk k i s ar, v, h => by
  simp only [Rep, fsT] at h
  obtain ⟨cs, rfl, h, _⟩ := h
  simp only [zu, Rep] at h
  obtain ⟨v1, _, rfl, ⟨rfl, hk⟩, v2, _, rfl, ⟨rfl, hi⟩, v3, _, rfl, ⟨rfl, hs⟩, v4, _, rfl, ⟨A, c, xs, rfl, hl, hc, hr, hrs, _⟩, rfl⟩ := h
  rw [show (zax ar).length = ar.length by rw [qoO]; simp] at hl ⊢
  refine ⟨_, rfl, ?_⟩
  simp only [CT]
  have hk' := qmv hk
  have hi' := qmv hi
  exact ⟨A, c, xs, by simp [Value.cells], ⟨by unfold I64; omega, by unfold I64; omega, hs, hl, hc⟩, hr.rd, qBR ar xs hrs⟩
theorem qBR : ∀ (ts : List T) (xs : List Value), zu p w (zax ts) xs → CL w ts xs
 | [], xs, h => by simpa only [zax, zu, CL] using h
 | t :: ts, xs, h => by
  simp only [zax, zu] at h
  obtain ⟨v, rest, rfl, h1, h2⟩ := h
  obtain ⟨cs, rfl, h3⟩ := qDr t v h1
  simpa [Value.cells] using CL.cons h3 (qBR ts rest h2)
end
theorem qAJ {t : T} {v : Value} (h : Rep p w (zl t) v) : VT w t v := qDr t v h
theorem qCR {ts : List T} {v : Value} (h : Rep p w (.lst (ts.map zl)) v) : SlT w ts v := by
 simp only [Rep] at h
 obtain ⟨A, c, xs, rfl, h2, h3, h4, h5, _⟩ := h
 simp only [jd] at h2 ⊢
 exact ⟨A, c, xs, rfl, h2, h3, h4.rd, qBR ts xs (by rw [qoO]; exact h5)⟩
theorem qCa {a : At} {v : Value} (h : Rep p w (zU a) v) : VA w a v := by
 simp only [zU, Rep, zu] at h
 obtain ⟨cs, rfl, ⟨v1, _, rfl, ⟨rfl, hs⟩, v2, _, rfl, h2, rfl⟩, _⟩ := h
 have h3 := qCR (ts := a.ts) (by simpa only [Rep] using h2)
 obtain ⟨A, c, xs, rfl, _⟩ := h2
 exact ⟨_, rfl, _, by simp [Value.cells], h3, hs⟩
theorem qAY {g : Gl} {v : Value} (h : Rep p w (zB g) v) : VG w g v := by
 simp only [zB, Rep, zu] at h
 obtain ⟨cs, rfl, ⟨v0, _, rfl, ⟨rfl, ho⟩, v1, _, rfl, ⟨rfl, hs⟩, v2, _, rfl, h2, rfl⟩, _⟩ := h
 have h3 := qCR (ts := g.ts) (by simpa only [Rep] using h2)
 obtain ⟨A, c, xs, rfl, _⟩ := h2
 have ho' := qmv ho
 exact ⟨_, rfl, _, by simp [Value.cells], h3, by unfold I64; omega, hs⟩
end
section
variable {p : Addr → Prop} {w : World}
theorem zb3 {d : D} {vs : List Value} (h : zC p w [d] vs) : ∃ v, vs = [v] ∧ Rep p w d v := by
 simp only [zC] at h
 obtain ⟨v, _, rfl, h1, rfl⟩ := h
 exact ⟨v, rfl, h1⟩
theorem repl2 {d e : D} {vs : List Value} (h : zC p w [d, e] vs) : ∃ v u, vs = [v, u] ∧ Rep p w d v ∧ Rep p w e u := by
 simp only [zC] at h
 obtain ⟨v, _, rfl, h1, u, _, rfl, h2, rfl⟩ := h
 exact ⟨v, u, rfl, h1, h2⟩
end
theorem zaG {P : Program} {f : FuncId} {d : D} {b : Bool} (h : ∀ (p : Addr → Prop) (w : World) (v : Value), Rep p w d v → Calls P f #[v] w (Ret w (Is (.bool b)))) : zg P f [d] (.bool b) :=
 qme (v := .bool b) (fun p w => by simp only [Rep]) fun p w vs _ hv => by
  obtain ⟨v, rfl, h1⟩ := zb3 hv
  exact h p w v h1
theorem zbP {P : Program} {f : FuncId} {d e : D} {b : Bool} (h : ∀ (p : Addr → Prop) (w : World) (v u : Value), Rep p w d v → Rep p w e u → Calls P f #[v, u] w (Ret w (Is (.bool b)))) : zg P f [d, e] (.bool b) :=
 qme (v := .bool b) (fun p w => by simp only [Rep]) fun p w vs _ hv => by
  obtain ⟨v, u, rfl, h1, h2⟩ := repl2 hv
  exact h p w v u h1 h2
theorem zbW {P : Program} {f : FuncId} {d : D} {n : Int} (hn : IntKind.i64.wrap n = n) (h : ∀ (p : Addr → Prop) (w : World) (v : Value), Rep p w d v → Calls P f #[v] w (Ret w (Is (.int .i64 n)))) : zg P f [d] (.int .i64 n) :=
 qme (v := .int .i64 n) (fun p w => by simp only [Rep]; exact ⟨trivial, hn⟩) fun p w vs _ hv => by
  obtain ⟨v, rfl, h1⟩ := zb3 hv
  exact h p w v h1
theorem qux (n : Nat) (hM : n ≤ 1000000000) (t : T) (hn : wt t ≤ n) : zg Tryz.prog 95 [zl t] (.bool (zJ t)) := zaG fun _ w v h => qoc n hM t v w hn (qAJ h)
theorem qwY (n : Nat) (hM : n ≤ 1000000000) (t u : T) (hn : wt t ≤ n) : zg Tryz.prog 184 [zl t, zl u] (.bool (yV t u)) := zbP fun _ w v x h k => quB n hM t u v x w hn (qAJ h) (qAJ k)
theorem qoS (n : Nat) (hM : n ≤ 1000000000) (a : At) (hn : wtL a.ts ≤ n) : zg Tryz.prog 47 [zU a] (.bool (zy a)) := zaG fun _ w v h => qlR n hM a v w hn (qCa h)
theorem qnT (n : Nat) (hM : n ≤ 1000000000) (a : Gl) (hn : wtL a.ts ≤ n) : zg Tryz.prog 66 [zB a] (.bool (zn a)) := zaG fun _ w v h => qsU n hM a v w hn (qAY h)
theorem qph (n : Nat) (hM : n ≤ 1000000000) (a : Gl) (hn : wtL a.ts ≤ n) : zg Tryz.prog 22 [zB a] (.bool (zn a)) := zaG fun _ w v h => qox n hM a v w hn (qAY h)
theorem qqw (n : Nat) (hM : n ≤ 1000000000) (a b : Gl) (hn : wtL a.ts ≤ n) : zg Tryz.prog 168 [zB a, zB b] (.bool (y8 a b)) := zbP fun _ w v x h k => qp2 n hM a b v x w hn (qAY h) (qAY k)
theorem quK (s : ByteArray) (hs : s.size ≤ 9223372036854775807) : zg Tryz.prog 17 [.str s] (.bool (zM s)) := zaG fun _ w v h => by
 simp only [Rep] at h
 rw [h.1]
 have := qmS s (Lib.hid hs) w
 refine this.mono ?_
 rintro e w' ⟨rfl, rfl⟩
 exact Ret.mk rfl (Ext.rfl' _)
abbrev encI (l : List Int) : D := .lst (l.map (D.int .i64))
def RowI (base : Nat) (l : List Int) (v : Value) (w : World) : Prop := zaE base 3 1 l.length (l.map (Value.int .i64)) v w
theorem qvp {w : World} {base base' : Nat} {e : TypeId} {size n : Nat} {v : Value} {xs : List Value} (h : w.ownsRow base e size v n xs) (hb : base' ≤ base) : w.ownsRow base' e size v n xs := by
 refine ⟨h.1, ?_⟩
 rcases h.2 with h3 | ⟨g, cap, cur, hv, hg, h4⟩
 exact .inl h3
 exact .inr ⟨g, cap, cur, hv, by omega, h4⟩
theorem qwE (d : Nat) (hd : d ≤ 1000000000) (ts : List T) (sv : Value) (w : World) (g : Nat) (hg : w.heap.size = g) (hn : wtL ts ≤ d) (hs : SlT w ts sv) :
 Calls Tryz.prog 98 #[.func (.func 129) #[] #[.pointer (some ⟨g, 0, none⟩)]] (w.alloc (.cells #[sv] 46)) (Ret w (RowI w.heap.size (yn [] (zo ts)))) := by
 subst hg
 exact (qAu d hd ts sv w.heap.size _ hn (Boxed.new w _ _).cell (hs.ext ((Ext.rfl' w).al _))).mono fun _ _ ⟨v, h1, ⟨A, c, h2, h4⟩, h3⟩ => ⟨v, h1, ⟨A, c, h2, qvp h4 og⟩, ((Ext.rfl' w).al _).tr h3⟩
theorem qto (d : Nat) (hd : d ≤ 1000000000) (a : At) (v : Value) (w : World) (hn : wtL a.ts ≤ d) (hv : VA w a v) : Calls Tryz.prog 64 #[v] w (Ret w (RowI w.heap.size (yn [] (zo a.ts)))) := by
 obtain ⟨sl, rfl, hs, -⟩ := hv.open_
 have hs' := zH hs
 obtain ⟨A, c, xs, rfl, -⟩ := hs
 clear hv
 go_enter Tryz.func64, Tryz.ntmps64
 go_wp2_with fail
 refine (qAK _ _ A a.ts.length c rfl).mono ?_
 rintro e w1 ⟨rfl, rfl⟩
 go_wp2_with fail
 refine (qwE d hd a.ts _ _ _ og hn (SlT.ext (ze hs') ((Ext.rfl' w).al _))).mono ?_
 rintro e w2 ⟨v, rfl, hr, he⟩
 have he := zH he
 obtain ⟨A2, c2, rfl, hr⟩ := hr
 have hr := zH (qvp hr (show w.heap.size ≤ _ by simp))
 go_wp2
 go_ret
 exact Ret.mk ⟨A2, c2, rfl, ze hr⟩ (((Ext.rfl' w).al _).tr (ze he))
theorem qtK {P : Program} {f : FuncId} {ds : List D} {l : List Int} (h : ∀ (p : Addr → Prop) (w : World) (vs : List Value), zC p w ds vs → (∀ x ∈ l, I64 x) ∧ Calls P f vs.toArray w (Ret w (RowI w.heap.size l))) : zg P f ds (encI l) := fun w p vs hi hv => by
 obtain ⟨hI, hc⟩ := h p w vs hv
 refine hc.mono fun e w' hr => ?_
 obtain ⟨v, rfl, ⟨A, c, rfl, ho⟩, he⟩ := hr
 have hcell : ∀ a, p a → w'.cell? a = w.cell? a := fun a ha => by
  obtain ⟨u, hu⟩ := hi.pub a ha
  exact (he.cellOf hu).trans hu.symm
 have hreps : ∀ (q : Addr → Prop) (m : List Int), (∀ x ∈ m, I64 x) → zu q w' (m.map (D.int .i64)) (m.map (Value.int .i64)) := fun q m => by
  induction m with
  | nil => exact fun _ => zu.nil _ _
  | cons x m ih =>
   intro hx
   have := hx x (jc ..)
   have h1 : Rep q w' (.int .i64 x) (.int .i64 x) := by
    simp only [Rep]
    exact ⟨trivial, wrap64 (by unfold I64 at this; omega)⟩
   simpa [Value.cells] using zu.cons h1 (ih fun y hy => hx y (je _ hy))
 have hones : ∀ u ∈ l.map (Value.int .i64), u.oneCell' = true := fun u hu => by
  obtain ⟨x, _, rfl⟩ := jq.1 hu
  rfl
 -- what is given out: the row
 refine .inl ⟨_, encI l, [], fun a => p a ∨ (w.heap.size ≤ a.block ∧ a.spot = none ∧ ∃ u, w'.cell? a = some u), rfl, rfl, ?_, ?_⟩
 simp only [Rep, jd]
 have hlen := ho.1
 rcases ho.2 with ⟨h1, h2⟩ | ⟨g, cap, cur, h1, h2, h3, h4, h5, h6, h7⟩
 injection h1 with h1 h8 h9
 subst h1 h9
 have : l = [] := jz h8
 subst this
 exact ⟨none, 0, [], rfl, by simp, by omega, .inl rfl, zu.nil _ _, by simp⟩
 injection h1 with h1 h8 h9
 subst h1 h9
 refine ⟨_, c, l.map (Value.int .i64), rfl, h4, by unfold maxLen at h5; omega, .inr ⟨g, 0, rfl, fun j u hu => ?_⟩, hreps _ l hI, hones⟩
 have hu' : w'.cell? ⟨g, 0 + j, none⟩ = some u := by
  rw [jx, cell_of_row _ _ _ _ _ _ h3]
  rw [← h7, vc] at hu
  split at hu
  simpa using hu
  cases hu
 exact ⟨.inr ⟨h2, rfl, u, hu'⟩, hu'⟩
 exact { ok := fun o ho => (by cases ho), nd := List.nodup_nil, mine := fun b hb => (by cases hb), pub := fun a ha => (by
  rcases ha with ha | ⟨_, _, u, hu⟩
  obtain ⟨u, hu⟩ := hi.pub a ha
  exact ⟨u, he.cellOf hu⟩
  exact ⟨u, hu⟩), gr := fun a ha => ⟨.inl ha, hcell a ha⟩, neu := fun a ha => ha.elim .inl fun h => .inr (.inl h.1), os := he.os, tape := he.tape, output := he.output, size := he.size, block := fun b hb _ => he.block b hb }
theorem qxA {w : World} {l : List T} {v : Value} (h : SlT w l v) : ∀ x ∈ yn [] (zo l), I64 x := fun x hx => by
 obtain ⟨A, c, xs, _, _, _, _, h5⟩ := h
 exact qrL l xs h5 x (by simpa using qg5.1 hx)
theorem qoB (n : Nat) (hM : n ≤ 1000000000) (a : At) (hn : wtL a.ts ≤ n) : zg Tryz.prog 64 [zU a] (encI (yn [] (zo a.ts))) := qtK fun p w vs h => by
 obtain ⟨v, rfl, h'⟩ := zb3 h
 obtain ⟨sl, _, hs, _⟩ := (qCa h').open_
 exact ⟨qxA hs, qto n hM a v w hn (qCa h')⟩
end Go.Proofs.YtamoolpdganckaaGreat
namespace Go.Proofs.YtamoolpdganckaaGreat
set_option maxRecDepth 100000
open Go.ChangeShapes Go.WideShapes Go.ChangeAt Go.RowKit
def live (w : World) (a : Addr) : Prop := ∃ v, w.cell? a = some v
theorem qxt {w w' : World} (e : Ext w w') : zT (live w) w (live w') w' := fun _ ⟨v, hv⟩ => ⟨⟨v, e.cellOf hv⟩, by rw [hv]; exact e.cellOf hv⟩
def Op (t : TypeId) (n : Nat) (S : D → Prop) : Prop := ∀ (H : Type) (enc : TypeId × Value → H) (W : World) (base : Nat) (sp : Nat → Bool) (hd : Bool) (fuel : Nat) (cs : List Value) (x : DataW H × List MemPlace),
 DataW.trod enc Tryz.prog W base sp hd fuel t cs = some x → ∃ d v, S d ∧ d.plain = true ∧ sz d = n ∧ Rep (live W) W d v ∧ cs = v.cells.toList
theorem Op.to {t : TypeId} {n : Nat} {S S' : D → Prop} (h : Op t n S) (k : ∀ d, S d → S' d) : Op t n S' := fun H enc W base sp hd fuel cs x hx => by
 obtain ⟨d, v, h1, h2⟩ := h H enc W base sp hd fuel cs x hx
 exact ⟨d, v, k d h1, h2⟩
theorem qCZ {t : TypeId} (ht : (Tryz.prog).underlying t = some (.int .i64)) : Op t 1 fun d => ∃ n, d = .int .i64 n := fun H enc W base sp hd fuel cs x hx => by
 obtain ⟨k, rfl, _, w0⟩ := DataW.trod_int ht hx
 have := qDn w0
 refine ⟨.int .i64 k, .int .i64 k, ⟨k, rfl⟩, rfl, rfl, ?_, by simp [Value.cells]⟩
 simp only [Rep]
 exact ⟨trivial, wrap64 (by unfold I64 at this; omega)⟩
def Fits : List (D → Prop) → List D → Prop
 | [], [] => True
 | S :: ss, d :: ds => S d ∧ Fits ss ds
 | _, _ => False
def tight (P : Program) : Nat → List Field → Bool
 | _, [] => true
 | o, f :: fs => f.offset == o && tight P (o + P.cellsOf f.type) fs
theorem qpQ {p : Addr → Prop} {w : World} : ∀ {ds : List D} {cs : List Value}, zu p w ds cs → (∀ d ∈ ds, d.plain = true) → ∀ u ∈ cs, u.oneCell' = true
 | [], cs, h, _, u, hu => by simp only [zu] at h; subst h; simp at hu
 | d :: ds, cs, h, hp, u, hu => by
  simp only [zu] at h
  obtain ⟨v, rest, rfl, h1, h2⟩ := h
  rcases jj.1 hu with hu | hu
  exact h1.one (hp d (jc ..)) u hu
  exact qpQ h2 (fun e he => hp e (je _ he)) u hu
def total (P : Program) : List Field → Nat
 | [] => 0
 | f :: fs => P.cellsOf f.type + total P fs
def layD (n : Nat) (hn : 0 < n) (S : D → Prop) : Lay D where
 C := fun w d cs => S d ∧ d.plain = true ∧ sz d = n ∧ ∃ v, Rep (live w) w d v ∧ cs = v.cells.toList
 n := n
 pos := hn
 ext := fun ⟨h1, h2, h3, v, h4, h5⟩ e => ⟨h1, h2, h3, v, h4.grow (qxt e), h5⟩
 len := fun ⟨_, _, h3, v, h4, h5⟩ => by rw [h5, ← h3, ← h4.sz]; simp
 one := fun ⟨_, h2, _, v, h4, h5⟩ u hu => by subst h5; exact h4.one h2 u hu
theorem qyn {n : Nat} {hn : 0 < n} {S : D → Prop} {w : World} : ∀ {l : List D} {xs : List Value}, (layD n hn S).Ls w l xs → (∀ d ∈ l, S d ∧ d.plain = true) ∧ zu (live w) w l xs
 | [], xs, h => by
  have h : xs = [] := h
  subst h
  exact ⟨by simp, zu.nil _ _⟩
 | d :: l, xs, ⟨cs, ys, h1, ⟨g1, g2, _, v, g4, g5⟩, h3⟩ => by
  obtain ⟨k1, k2⟩ := qyn h3
  subst h1 g5
  refine ⟨?_, zu.cons g4 k2⟩
  intro e he
  rcases jh.1 he with rfl | he
  exact ⟨g1, g2⟩
  exact k1 e he
theorem qBU {w : World} {A : Option Addr} {xs : List Value} (h : Rd w A xs) : RdP (live w) w A xs := by
 rcases h with h | ⟨ad, rfl, hc⟩
 exact .inl h
 by_cases he : xs = []
 exact .inl he
 have hlen : 0 < xs.length := List.length_pos_iff.2 he
 have hsp : ad.spot = none := by
  have := qpB (hc 0 _ (js hlen))
  simpa [Addr.add] using this
 obtain ⟨b, o, sp⟩ := ad
 simp only at hsp
 subst hsp
 refine .inr ⟨b, o, rfl, fun j u hu => ?_⟩
 have h1 : w.cell? ⟨b, o + j, none⟩ = some u := by have := hc j u hu; rwa [qrV] at this
 exact ⟨⟨u, h1⟩, h1⟩
theorem qwp {α : Type} {f : α → D} : ∀ {l : List D}, (∀ x ∈ l, ∃ a, x = f a) → ∃ av : List α, l = av.map f
 | [], _ => ⟨[], rfl⟩
 | d :: l, h => by
  obtain ⟨a, rfl⟩ := h d (jc ..)
  obtain ⟨av, rfl⟩ := qwp fun x hx => h x (je _ hx)
  exact ⟨a :: av, rfl⟩
/-! ### terms -/
/-! ### a law's arguments -/
def Cl (t : TypeId) (S : D → Prop) : Prop := ∀ (W : World) (b : Nat) (v : Value), Value.okWide Tryz.prog W .any b t v → ∀ d, S d → v = yc d v.cells.toList
theorem Cl.to {t : TypeId} {S S' : D → Prop} (h : Cl t S') (k : ∀ d, S d → S' d) : Cl t S := fun W b v hv d hd => h W b v hv d (k d hd)
theorem qyH {t : TypeId} {fs : Array Field} (ht : (Tryz.prog).underlying t = some (.struct fs)) : Cl t fun d => ∃ ds, d = .agg ds := fun W b v hv d ⟨ds, hd⟩ => by
 obtain ⟨cs, rfl, _⟩ := okWide_struct ht hv
 subst hd
 simp [Value.cells, yc]
theorem qzL {t e : TypeId} (ht : (Tryz.prog).underlying t = some (.slice e)) : Cl t fun d => ∃ l, d = .lst l := fun W b v hv d ⟨l, hd⟩ => by
 obtain ⟨a, n, c, rfl⟩ := okWide_slice ht hv
 subst hd
 simp [Value.cells, yc]
end Go.Proofs.YtamoolpdganckaaGreat
namespace Go.Proofs.YtamoolpdganckaaGreat
set_option maxRecDepth 100000
open Go.RowKit
theorem qw3 (n : Nat) (hM : n ≤ 1000000000) (t : T) (hn : wt t ≤ n) : zg Tryz.prog 58 [zl t] (.int .i64 (zD t : Nat)) := zbW (wrap64 (by have := qsT t; omega)) fun _ w v h => qlq n t v w hn hM (qAJ h)
open Classical in
noncomputable def yC (v : Value) : List MapEntry → Nat → Option (Nat × Value)
 | [], _ => none
 | e :: es, i => if e.key = v then some (i, e.val) else yC v es (i + 1)
structure zaJ (P : Program) (kt : TypeId) {α : Type} (key : α → D) (vk : α → Value) (d : Value → Prop) : Prop where
 rep : ∀ (p : Addr → Prop) (w : World) (a : α) (v : Value), Rep p w (key a) v → v = vk a
 good : ∀ (p : Addr → Prop) (w : World) (a : α) (v : Value), Rep p w (key a) v → d v
 inj : ∀ a b, vk a = vk b → a = b
 check : ∀ (w : World) (em : Bool) (v : Value), d v → (Instr.checkKey em 10000 kt v).run P w = .ok () w
 find : ∀ (w : World) (v : Value) (es : List MapEntry), d v → (∀ e ∈ es, d e.key) → (Instr.findKey kt v es).run P w = .ok (yC v es 0) w
 stays : ∀ (w : World) (v : Value), d v → (Instr.keyThatStays v v).run P w = .ok v w
theorem qnh {d : TypeDesc} {k : Value} (hk : MapKept.IsKey d k) : ∀ (es : List MapEntry) (i : Nat), (∀ e ∈ es, MapKept.IsKey d e.key) → Instr.findNow d k es i = some (yC k es i)
 | [], i, _ => rfl
 | e :: es, i, h => by
  obtain ⟨b, hb, hiff⟩ := MapKept.sameNow_of_keys hk (h e (jc ..))
  simp only [Instr.findNow, hb, yC]
  cases b with
  | true => rw [if_pos (hiff.1 rfl).symm]
  | false =>
   rw [if_neg fun e => by have := hiff.2 e.symm; cases this]
   exact qnh hk es (i + 1) fun x hx => h x (je _ hx)
theorem qxa {P : Program} {kt : TypeId} {d : TypeDesc} {α : Type} {key : α → D} {vk : α → Value} (h : P.underlying kt = some d) (h1 : ∀ (p : Addr → Prop) (w : World) (a : α) (v : Value), Rep p w (key a) v → v = vk a) (h2 : ∀ a, MapKept.IsKey d (vk a)) (h3 : ∀ a b, vk a = vk b → a = b) : zaJ P kt key vk (MapKept.IsKey d) :=
 ⟨h1, fun p w a v hv => by rw [h1 p w a v hv]; exact h2 a, h3, fun w em v hv => MapKept.run_checkKey h hv em 9999, fun w v es hv he => MapKept.run_findKey h (qnh hv es 0 he), fun w v hv => MapKept.run_keyThatStays hv⟩
theorem zbS {P : Program} {kt : TypeId} {k : IntKind} (h : P.underlying kt = some (.int k)) : zaJ P kt (fun n : Int => D.int k n) (fun n => .int k n) (MapKept.IsKey (.int k)) :=
 qxa h (fun p w a v hv => by simp only [Rep] at hv; exact hv.1) (fun a => rfl) fun a b e => by injection e
theorem qml {α : Type} {P : Program} {kt : TypeId} {key : α → D} {vk : α → Value} {d : Value → Prop} (hK : zaJ P kt key vk d) {p : Addr → Prop} {w : World} : ∀ {l : List (α × D)} {es : List MapEntry}, yd p w (l.map fun q => (key q.1, q.2)) es → ∀ e ∈ es, d e.key
 | [], es, h, e, he => by
  simp only [vj, yd] at h
  subst h
  cases he
 | r :: l, es, h, e, he => by
  simp only [jr, yd] at h
  obtain ⟨e0, rest, rfl, h1, h2, h3⟩ := h
  rcases jh.1 he with rfl | he
  exact hK.good _ _ _ _ h1
  exact qml hK h3 e he
section
variable {α : Type} [DecidableEq α]
abbrev zbb (key : α → D) (l : List (α × D)) : List (D × D) := l.map fun q => (key q.1, q.2)
def zai : List (α × D) → α → Option D
 | [], _ => none
 | q :: l, x => if q.1 = x then some q.2 else zai l x
def za6 : List (α × D) → α → D → List (α × D)
 | [], x, d => [(x, d)]
 | q :: l, x, d => if q.1 = x then (x, d) :: l else q :: za6 l x d
theorem qvv : ∀ (l : List (α × D)) (x : α) (d : D), (za6 l x d).length ≤ l.length + 1
 | [], x, d => by simp [za6]
 | q :: l, x, d => by
  unfold za6
  split
  simp
  have := qvv l x d
  simp only [jg]
  omega
theorem qpY {P : Program} {kt : TypeId} {key : α → D} {vk : α → Value} {d : Value → Prop} (hK : zaJ P kt key vk d) (p : Addr → Prop) (w : World) (x : α) (dd : D) : ∀ (l : List (α × D)) (es : List MapEntry) (i : Nat), yd p w (zbb key l) es →
 (yC (vk x) es i = none ∧ zai l x = none ∧ za6 l x dd = l ++ [(x, dd)]) ∨
 ∃ j e dv, yC (vk x) es i = some (i + j, e.val) ∧ es[j]? = some e ∧ e.key = vk x ∧ zai l x = some dv ∧ Rep p w dv e.val ∧ ∀ (q : Addr → Prop) (u : World) (e' : MapEntry), zT p w q u → Rep q u (key x) e'.key → Rep q u dd e'.val → yd q u (zbb key (za6 l x dd)) (es.set j e')
 | [], es, i, h => by
  simp only [zbb, vj, yd] at h
  subst h
  exact .inl ⟨rfl, rfl, rfl⟩
 | r :: l, es, i, h => by
  simp only [zbb, jr, yd] at h
  obtain ⟨e, rest, rfl, h1, h2, h3⟩ := h
  have hk := hK.rep _ _ _ _ h1
  by_cases hx : r.1 = x
  refine .inr ⟨0, e, r.2, by simp [yC, hk, hx], rfl, by rw [hk, hx], by simp [zai, hx], h2, fun q u e' g q1 q2 => ?_⟩
  simp only [za6, if_pos hx, zbb, jr, yd, jF]
  exact ⟨e', rest, rfl, q1, q2, h3.grow g⟩
  have hne : e.key ≠ vk x := fun e' => hx (hK.inj _ _ (by rw [← hk]; exact e'))
  rcases qpY hK p w x dd l rest (i + 1) h3 with ⟨q1, q2, q3⟩ | ⟨j, e2, dv, q1, q2, q3, q4, q5, q6⟩
  exact .inl ⟨by simp [yC, hne, q1], by simp [zai, hx, q2], by simp [za6, hx, q3]⟩
  refine .inr ⟨j + 1, e2, dv, by simp [yC, hne, q1]; omega, by simpa using q2, q3, by simp [zai, hx, q4], q5, fun q u e' g r1 r2 => ?_⟩
  simp only [za6, if_neg hx, zbb, jr, yd, jE]
  exact ⟨e, _, rfl, h1.grow g, h2.grow g, q6 q u e' g r1 r2⟩
theorem qs3 {p : Addr → Prop} {w : World} : ∀ {l m : List (D × D)} {es fs : List MapEntry}, yd p w l es → yd p w m fs → yd p w (l ++ m) (es ++ fs)
 | [], m, es, fs, h, k => by simp only [yd] at h; subst h; simpa using k
 | r :: l, m, es, fs, h, k => by
  obtain ⟨a, b⟩ := r
  simp only [yd] at h
  obtain ⟨e, rest, rfl, h1, h2, h3⟩ := h
  simp only [jC, yd]
  exact ⟨e, _, rfl, h1, h2, qs3 h3 k⟩
variable {P : Program} {o : Oper} {ρ : Operand → Option D}
theorem qxJ {t : TypeId} {σ : St} (ho : o.op = .makeMap t none) : zA P o ρ σ fun d' σ' => ∃ r, d' = .map r ∧ σ' = .map r [] :: σ := fun K p a w hi h => by
 have hr : (execOp a.eval o).run P w = .ok (.value (.map (some w.heap.size))) (w.alloc (.map #[] 0)) := by
  unfold execOp
  rw [ho]
  simp [Instr.makeMap]
 unfold Oper.wp
 rw [hr]
 refine ⟨_, .map w.heap.size, _, p, rfl, ⟨w.heap.size, rfl, rfl⟩, by simp only [Rep], ?_, qfq hi.pub _⟩
 refine (hi.alloc _).more ⟨#[], 0, heap_alloc_new w _, by simp only [yd], by simp, by simp, by simp⟩ fun b hb => ?_
 simp only [Ob.blk, Option.some.injEq] at hb
 subst hb
 exact ⟨.inl hi.size, fun hm => by have := hi.lt hm; omega⟩
theorem qyj {t kt e : TypeId} {x y : Operand} {key : α → D} {vk : α → Value} {d : Value → Prop} {r : Nat} {l : List (α × D)} {a0 : α} {z : D} {zv : Value} {σ : St} (ho : o.op = .lookup t x y true) (ht : P.underlying t = some (.map kt e)) (hK : zaJ P kt key vk d) (hz : (P.info? e).map (·.zero) = some (some zv)) (hzr : ∀ p w, Rep p w z zv) (hx : ρ x = some (.map r)) (hy : ρ y = some (key a0)) (hσ : .map r (zbb key l) ∈ σ) :
 zA P o ρ σ fun d' σ' => d' = .tup [(zai l a0).getD z, .bool (zai l a0).isSome] ∧ σ' = σ := fun K p a w hi h => by
 have h1 := h x (by rw [ho]; simp [Op.operands]) _ hx
 have h2 := hK.rep _ _ _ _ (h y (by rw [ho]; simp [Op.operands]) _ hy)
 have hgood : d (vk a0) := h2 ▸ hK.good _ _ _ _ (h y (by rw [ho]; simp [Op.operands]) _ hy)
 simp only [Rep] at h1
 obtain ⟨es, clock, g1, g2, _⟩ := hi.ok _ hσ
 obtain ⟨i, hi1, hi2⟩ := jN.1 hz
 have hc := hK.check w es.isEmpty (vk a0) hgood
 rcases qpY hK p w a0 z l es.toList 0 g2 with ⟨q1, q2, _⟩ | ⟨j, e', dv, q1, q2, q3, q4, q5, _⟩
 · have hf := (hK.find w (vk a0) es.toList hgood (qml hK g2)).trans (by rw [q1])
   have hr : (execOp a.eval o).run P w = .ok (.value (.tuple #[zv, .bool false])) w := by
    unfold execOp
    rw [ho]
    simp [h1, h2, Instr.lookup, run_underlying ht, MapKept.run_getObj_map g1, hc, hf, zeroValue, typeInfo, hi1, hi2]
   unfold Oper.wp
   rw [hr]
   refine ⟨_, _, _, p, rfl, ⟨rfl, rfl⟩, ?_, hi, zT.refl _ _⟩
   rw [q2]
   simp only [Rep, zC, Option.getD_none, Option.isSome_none]
   exact ⟨[zv, .bool false], rfl, zv, _, rfl, hzr p w, .bool false, [], rfl, rfl, rfl⟩
 · have hf := (hK.find w (vk a0) es.toList hgood (qml hK g2)).trans (by rw [q1])
   have hr : (execOp a.eval o).run P w = .ok (.value (.tuple #[e'.val, .bool true])) w := by
    unfold execOp
    rw [ho]
    simp [h1, h2, Instr.lookup, run_underlying ht, MapKept.run_getObj_map g1, hc, hf]
   unfold Oper.wp
   rw [hr]
   refine ⟨_, _, _, p, rfl, ⟨rfl, rfl⟩, ?_, hi, zT.refl _ _⟩
   rw [q4]
   simp only [Rep, zC, vD, Option.isSome_some]
   exact ⟨[e'.val, .bool true], rfl, e'.val, _, rfl, q5, .bool true, [], rfl, rfl, rfl⟩
theorem quM {t kt e : TypeId} {x y v : Operand} {key : α → D} {vk : α → Value} {d : Value → Prop} {r : Nat} {l : List (α × D)} {a0 : α} {dn dd : D} {σ : St} (τ : St) (ho : o.op = .mapUpdate t x y v) (ht : P.underlying t = some (.map kt e)) (hK : zaJ P kt key vk d) (hx : ρ x = some (.map r)) (hy : ρ y = some (key a0)) (hv : ρ v = some dn) (hw : Wk dn dd) (hσ : σ.Perm (.map r (zbb key l) :: τ)) (hlen : l.length < 9223372036854775807) :
 zA P o ρ σ fun _ σ' => σ' = .map r (zbb key (za6 l a0 dd)) :: τ := fun K p a w hi h => by
 have h1 := h x (by rw [ho]; simp [Op.operands]) _ hx
 have hyr := h y (by rw [ho]; simp [Op.operands]) _ hy
 have h2 := hK.rep _ _ _ _ hyr
 have hgood : d (vk a0) := h2 ▸ hK.good _ _ _ _ hyr
 have h3 := hw _ _ _ (h v (by rw [ho]; simp [Op.operands]) _ hv)
 simp only [Rep] at h1
 have hi' := hi.perm hσ
 obtain ⟨es, clock, g1, g2, g3, gn, gl⟩ := hi'.ok _ (jc ..)
 have hc := hK.check w false (vk a0) hgood
 have hlt : r < w.heap.size := (jD.1 g1).1
 have fin : ∀ (es' : Array MapEntry) (clock' : Nat), (es'.toList.map (·.born)).Nodup → (∀ e ∈ es'.toList, e.born < clock') → (∀ (q : Addr → Prop) (u : World), zT p w q u → yd q u (zbb key (za6 l a0 dd)) es'.toList) →
  ∃ p', Inv K p' (.map r (zbb key (za6 l a0 dd)) :: τ) { w with heap := w.heap.setIfInBounds r (.map es' clock') } ∧ zT p w p' { w with heap := w.heap.setIfInBounds r (.map es' clock') } ∧ p' = p := fun es' clock' hn' hl' hr => by
  have hset := MapKept.heap_set (o' := .map es' clock') g1
  have hcell : ∀ a', p a' → ({ w with heap := w.heap.setIfInBounds r (.map es' clock') } : World).cell? a' = w.cell? a' := fun a' ha => qiJ (hset.2 _ (by
   intro e
   obtain ⟨u, hu⟩ := hi.pub a' ha
   unfold World.cell? at hu
   rw [e, g1] at hu
   cases hu))
  have gr : zT p w p { w with heap := w.heap.setIfInBounds r (.map es' clock') } := fun a' ha => ⟨ha, hcell a' ha⟩
  refine ⟨p, hi'.write (b := r) rfl rfl gr (fun a' ha => .inl ha) ⟨es', clock', hset.1, hr _ _ gr, ?_, hn', hl'⟩ (fun a' ha => ?_) rfl rfl rfl og fun k hk => hset.2 k hk, gr, rfl⟩
  · have := qvv l a0 dd
    simp only [jd]
    omega
  · obtain ⟨u, hu⟩ := hi.pub a' ha
    exact ⟨u, by rw [hcell a' ha]; exact hu⟩
 rcases qpY hK p w a0 dd l es.toList 0 g2 with ⟨q1, q2, q3⟩ | ⟨j, e', dv, q1, q2, q3, q4, q5, q6⟩
 · have hf := (hK.find w (vk a0) es.toList hgood (qml hK g2)).trans (by rw [q1])
   have hr : (execOp a.eval o).run P w = .ok .skip { w with heap := w.heap.setIfInBounds r (.map (es.push { key := vk a0, val := a.eval v, born := clock }) (clock + 1)) } := by
    unfold execOp
    rw [ho]
    simp [h1, h2, Instr.mapUpdate, run_underlying ht, MapKept.run_getObj_map g1, hc, hf, MapKept.run_setObj_map _ g1]
   unfold Oper.wp
   rw [hr]
   obtain ⟨p', f1, f2, rfl⟩ := fin (es.push { key := vk a0, val := a.eval v, born := clock }) (clock + 1) (by
    rw [Array.toList_push, jM]
    refine jH.2 ⟨gn, by simp, fun x hx y hy hxy => ?_⟩
    obtain ⟨e, he, rfl⟩ := jq.1 hx
    simp only [jr, vj, ji] at hy
    have := gl e he
    omega) (by
    intro e he
    rw [Array.toList_push] at he
    rcases jj.1 he with he | he
    have := gl e he; omega
    rw [ji.1 he]; exact Nat.lt_succ_self _) fun q u g => by
    rw [q3, Array.toList_push, zbb, jM]
    refine qs3 (g2.grow g) ?_
    simp only [jr, vj, yd]
    exact ⟨_, [], rfl, h2 ▸ hyr.grow g, h3.grow g, rfl⟩
   exact ⟨Go.undef, .undef, _, p', rfl, rfl, by simp only [Rep], f1, f2⟩
 · have hf := (hK.find w (vk a0) es.toList hgood (qml hK g2)).trans (by rw [q1])
   rw [jx] at hf
   have hks : (Instr.keyThatStays (((es[j]?).map (·.key)).getD (vk a0)) (vk a0)).run P w = .ok (vk a0) w := by
    have : es[j]? = some e' := by simpa using q2
    rw [this]
    simp only [Option.map_some, vD, q3]
    exact hK.stays w _ hgood
   have hr : (execOp a.eval o).run P w = .ok .skip { w with heap := w.heap.setIfInBounds r (.map (es.modify j fun e => { e with key := vk a0, val := a.eval v }) clock) } := by
    unfold execOp
    rw [ho]
    simp [h1, h2, Instr.mapUpdate, run_underlying ht, MapKept.run_getObj_map g1, hc, hf, hks, MapKept.run_setObj_map _ g1]
   unfold Oper.wp
   rw [hr]
   have hm : (es.modify j fun e => { e with key := vk a0, val := a.eval v }).toList = es.toList.set j { e' with key := vk a0, val := a.eval v } := by
    apply List.ext_getElem?
    intro k
    rw [vr, Array.getElem?_modify, List.getElem?_set, vr]
    have hj := (ju.1 q2).1
    by_cases hjk : j = k
    subst hjk
    rw [if_pos rfl, if_pos rfl, if_pos hj]
    have : es[j]? = some e' := by simpa using q2
    rw [this]; rfl
    rw [if_neg hjk, if_neg hjk]
   have hb : (es.toList.set j { e' with key := vk a0, val := a.eval v }).map (·.born) = es.toList.map (·.born) := by
    apply List.ext_getElem?
    intro k
    rw [v7, List.getElem?_set, v7]
    have hj := (ju.1 q2).1
    by_cases hjk : j = k
    subst hjk
    rw [if_pos rfl, if_pos hj, q2]
    rfl
    rw [if_neg hjk]
   obtain ⟨p', f1, f2, rfl⟩ := fin (es.modify j fun e => { e with key := vk a0, val := a.eval v }) clock (by rw [hm, hb]; exact gn) (by
    intro e he
    have h5 : e.born ∈ es.toList.map (·.born) := by rw [← hb, ← hm]; exact jI he
    obtain ⟨e2, h6, h7⟩ := jq.1 h5
    rw [← h7]
    exact gl e2 h6) fun q u g => by
    rw [hm]
    exact q6 q u _ g (h2 ▸ hyr.grow g) (h3.grow g)
   exact ⟨Go.undef, .undef, _, p', rfl, rfl, by simp only [Rep], f1, f2⟩
end
def zbe (u : Value) : Nat := u.ownBlock.getD 0
theorem qu0 {p : Addr → Prop} {w : World} {u : Value} {l : List D} {e : TypeId} {s : Nat} (h : zbm p w (.vec u l e s)) (hl : l ≠ []) :
 ∃ g cap xs junk, u = .slice (some ⟨g, 0, none⟩) l.length cap ∧ zu p w l xs ∧ (∀ x ∈ xs, x.oneCell' = true) ∧ w.heap[g]? = some (.cells (xs ++ junk).toArray e (0, 0)) ∧ (∀ a, p a → a.block ≠ g) ∧ l.length ≤ cap ∧ cap ≤ maxLen ∧ (xs ++ junk).length = cap * s := by
 obtain ⟨h1, h2, ⟨xs, ⟨h3, h4⟩, h5, h6⟩, h7⟩ := h
 rcases h4 with ⟨_, h4⟩ | ⟨g, cap, cur, rfl, _, k1, k2, k3, k4, k5⟩
 · exact absurd (jz h4) hl
 · have e1 : xs ++ cur.toList.drop (l.length * s) = cur.toList := by rw [← k5, j6]
   exact ⟨g, cap, xs, cur.toList.drop (l.length * s), rfl, h5, h6, by rw [e1]; simpa using k1, h7 g rfl, k2, k3, by rw [e1]; simpa using k4⟩
section
variable {P : Program} {o : Oper} {ρ : Operand → Option D} {d : D}
theorem qDz {x : Operand} {t e : TypeId} {u : Value} {n : Nat} (ho : o.op = .call { callee := .builtin .len, args := #[x], argTypes := #[t] }) (ht : P.underlying t = some (.slice e)) (hx : ρ x = some (.vec u n)) : zE P o ρ (.int .i64 (n : Int)) := qex fun p a w h => by
 have h1 := h x (by rw [ho]; simp [Op.operands, Call.operands]) _ hx
 simp only [Rep] at h1
 obtain ⟨h1, A, c, rfl, h2, h3⟩ := h1
 refine ⟨.int .i64 (n : Int), ?_, by simpa only [Rep, true_and] using wrap64 oa⟩
 unfold execOp
 rw [ho]
 simp [resolve, invoke, builtin, h1, Builtin.len_, run_underlying ht, goInt]
theorem qwN {t e : TypeId} {x ix : Operand} {s by_ n : Nat} {u : Value} {k : IntKind} {m : Int} {σ : St} {l : List D} (j : Nat) (ho : o.op = .indexAddr t x ix) (hE : ElT P t e s by_) (hx : ρ x = some (.vec u n)) (hix : ρ ix = some (.int k m)) (hm : m = (j : Int)) (hj : j < l.length) (hσ : .vec u l e s ∈ σ) : zA P o ρ σ fun d' σ' => d' = .mref (zbe u) j s 0 [] ∧ σ' = σ := fun K p a w hi h => by
 have hne : l ≠ [] := fun e => by rw [e] at hj; simp at hj
 obtain ⟨g, cap, xs, junk, rfl, g1, g2, g3, g4, g5, g6, g7⟩ := qu0 (hi.ok _ hσ) hne
 have h1 := h x (by rw [ho]; simp [Op.operands]) _ hx
 have hn : n = l.length := by
  simp only [Rep] at h1
  obtain ⟨_, A, c, h2, _⟩ := h1
  injection h2 with _ h2
  exact h2.symm
 have h7 := h ix (by rw [ho]; simp [Op.operands]) _ hix
 simp only [Rep] at h1 h7
 obtain ⟨h1, _⟩ := h1
 subst hm hn
 obtain ⟨i, hii, hin⟩ := jN.1 hE.size
 have hr : (execOp a.eval o).run P w = .ok (.value (.pointer (some ⟨g, j * s + 0, none⟩))) w := by
  unfold execOp
  rw [ho]
  simp [h1, h7.1, Instr.indexAt, asIntOf, run_underlying hE.1, sizeOf, typeInfo, hii, hin, hj, zbB]
 unfold Oper.wp
 rw [hr]
 exact ⟨_, .mref g j s 0 [], σ, p, rfl, ⟨rfl, rfl⟩, by simp only [Rep], hi, zT.refl p w⟩
theorem qA0 {x y : Operand} {t e : TypeId} {s by_ n : Nat} {σ τ : St} {u : Value} {l m : List D} {dy : D} (ho : o.op = .call { callee := .builtin .append, args := #[x, y], argTypes := #[t, t] }) (hE : ElT P t e s by_) (hx : ρ x = some (.vec u n)) (hy : ρ y = some dy) (hm : AsL dy m) (hσ : σ.Perm (.vec u l e s :: τ)) (hml : zO s m) (hb : (l.length + m.length) * by_ ≤ 140737488355328) (h63 : l.length + m.length ≤ 9223372036854775807) :
 zA P o ρ σ fun d' σ' => ∃ u', d' = .vec u' (l ++ m).length ∧ σ' = .vec u' (l ++ m) e s :: τ := fun K p a w hi h => by
 rw [jb]
 obtain ⟨hu, ⟨z, hz, hzs⟩, hs0⟩ := hE
 obtain ⟨i, hii, hz', hsize, hby⟩ := info_parts hz
 have hi' := hi.perm hσ
 have hxv := h x (by rw [ho]; simp [Op.operands, Call.operands]) _ hx
 simp only [Rep] at hxv
 obtain ⟨hvu, _⟩ := hxv
 have hob := hi'.ok _ (jc ..)
 obtain ⟨hl, _, ⟨xs, ⟨k8, hopen⟩, k6, k7⟩, k9⟩ := hob
 obtain ⟨A, c, ys, g1, g2, g3, g4, g5, g6⟩ := hm.rep (h y (by rw [ho]; simp [Op.operands, Call.operands]) _ hy)
 have hyl : ys.length = m.length * s := by rw [g5.len, hml.szs]
 have hlm : zO s (l ++ m) := fun d hd => (jj.1 hd).elim (hl d) (hml d)
 have hrun0 : ∀ r, (Builtin.append_ #[t, t] o.type #[u, .slice A m.length c]).run P w = r → (execOp a.eval o).run P w = r.andThen fun v w' => .ok (.value v) w' := fun r hr => by
  subst hr
  unfold execOp
  simp only [ho, resolve, invoke, builtin, Sem.run_bind, Sem.run_pure, Result.andThen_ok, List.map_toArray, jr, vj, hvu, g1]
 have hmx : maxLen = 9223372036854775807 := rfl
 -- where nothing is appended
 by_cases hm0 : m.length = 0
 · have hm0' : m = [] := jz hm0
   subst hm0'
   have hys : ys = [] := jz (by simpa using hyl)
   have hrep : Rep p w (.vec u l.length) u := by
    simp only [Rep]
    refine ⟨trivial, ?_⟩
    rcases hopen with ⟨rfl, h0⟩ | ⟨g, cap, cur, rfl, _, k1, k2, k3, _⟩
    exact ⟨none, 0, by rw [h0], by omega, by omega⟩
    exact ⟨_, cap, rfl, k2, by omega⟩
   have hr : (Builtin.append_ #[t, t] o.type #[u, .slice A 0 c]).run P w = .ok u w := by
    rcases hopen with ⟨rfl, _⟩ | ⟨g, cap, cur, rfl, _, k1, k2, _⟩
    cases A <;> simp [Builtin.append_, run_underlying hu, sizeOf, typeInfo, hii, Builtin.lenOf, Builtin.firstCells, loadCells, loadCellsFrom]
    cases A <;> simp [Builtin.append_, run_underlying hu, sizeOf, typeInfo, hii, Builtin.lenOf, Builtin.firstCells, loadCells, loadCellsFrom, k2, storeCells]
   unfold Oper.wp
   rw [hrun0 _ hr]
   exact ⟨u, .vec u (l.length + 0), _, p, rfl, ⟨u, rfl, rfl⟩, hrep, by simpa using hi', zT.refl p w⟩
 -- the cells that are appended
 · have hys : ys ≠ [] := fun hys => by
    rw [hys] at hyl
    have := Nat.mul_pos (vG hm0) hs0
    simp at hyl
    omega
   rcases g4 with g4 | ⟨b, o', rfl, hcell⟩
   · exact absurd g4 hys
   have hnews : ∀ j v, ys[j]? = some v → w.cell? ((⟨b, o', none⟩ : Addr).add j) = some v := fun j v hv => by rw [zbB]; exact (hcell j v hv).2
   subst hsize
   subst hby
   have grown : ∀ (old : Nat), old < l.length + m.length →
    ∃ u', u' = .slice (some ⟨w.heap.size, 0, none⟩) (l.length + m.length) (grownCap w (l.length + m.length) old e) ∧ Rep p (w.drew.alloc (.cells (xs.toArray ++ ys.toArray ++ Builtin.zeroCells z.cells (grownCap w (l.length + m.length) old e - (l.length + m.length))) e)) (.vec u' (l.length + m.length)) u' ∧ Inv K p (.vec u' (l ++ m) e i.size :: τ) (w.drew.alloc (.cells (xs.toArray ++ ys.toArray ++ Builtin.zeroCells z.cells (grownCap w (l.length + m.length) old e - (l.length + m.length))) e)) ∧
     zT p w p (w.drew.alloc (.cells (xs.toArray ++ ys.toArray ++ Builtin.zeroCells z.cells (grownCap w (l.length + m.length) old e - (l.length + m.length))) e)) := fun old hold => by
    have hge := grownCap_ge w (l.length + m.length) old e
    have hcm : grownCap w (l.length + m.length) old e ≤ maxLen := grownCap_le_maxLen w (l.length + m.length) old e (by unfold maxLen; omega)
    have hlen : (xs ++ ys).length = (l.length + m.length) * i.size := by rw [jb, k8, hyl, jA]
    have hs1 : (xs.toArray ++ ys.toArray ++ Builtin.zeroCells z.cells (grownCap w (l.length + m.length) old e - (l.length + m.length))).size = grownCap w (l.length + m.length) old e * i.size := by
     simp only [Array.size_append, vb, size_zeroCells, hzs, k8, hyl, ← jA]
     congr 1
     omega
    have ht1 : (xs.toArray ++ ys.toArray ++ Builtin.zeroCells z.cells (grownCap w (l.length + m.length) old e - (l.length + m.length))).toList.take ((l.length + m.length) * i.size) = xs ++ ys := by
     simp only [Array.toList_append, jk]
     rw [← jk, ← hlen]
     exact vH
    generalize xs.toArray ++ ys.toArray ++ Builtin.zeroCells z.cells (grownCap w (l.length + m.length) old e - (l.length + m.length)) = cur at hs1 ht1 ⊢
    have gr : zT p w p (w.drew.alloc (.cells cur e)) := (qjN p w).tr (qfq hi'.tail.drew.pub _)
    refine ⟨_, rfl, ?_, ?_, gr⟩
    · simp only [Rep]
      exact ⟨trivial, _, _, rfl, hge, by omega⟩
    · refine (hi'.tail.drew.alloc (.cells cur e)).more ⟨hlm, hs0, ⟨xs ++ ys, ⟨by rw [hlen, jb], .inr ⟨w.heap.size, _, cur, by rw [jb], jf _, heap_alloc_new w.drew _, by rw [jb]; exact hge, hcm, hs1, by rw [jb]; exact ht1⟩⟩, (k6.app g5).grow gr, fun x hx => (jj.1 hx).elim (k7 x) (g6 x)⟩, fun g hg a ha hab => ?_⟩ fun b hb => ?_
      · simp only [Value.ownBlock, Option.some.injEq] at hg
        have hg : w.heap.size = g := hg
        obtain ⟨v, hv⟩ := hi.pub a ha
        have := qmP hv
        omega
      · simp only [Ob.blk, Value.ownBlock, Option.some.injEq] at hb
        have hb : w.heap.size = b := hb
        subst hb
        exact ⟨.inl hi.size, fun hm => by have := hi'.tail.lt hm; omega⟩
   have hmpos : 0 < m.length := vG hm0
   rcases hopen with ⟨rfl, h0⟩ | ⟨g, cap, cur, rfl, _, k1, k2, k3, k4, k5⟩
   · obtain rfl := jz h0
     obtain rfl : xs = [] := jz (by simpa using k8)
     have hr := run_append_nil (P := P) w t o.type e i z hu hii hz' ⟨b, o', none⟩ m.length c ys hyl hnews oa oa (by have hb := hb; simp only [jP, jx] at hb; omega)
     obtain ⟨u', hu', q1, q2, q3⟩ := grown 0 oe
     simp only [jP, jx, Array.empty_append, jp] at hr q1 q2 q3 hu' ⊢
     unfold Oper.wp
     rw [hrun0 _ hr]
     subst hu'
     exact ⟨_, _, _, p, rfl, ⟨_, rfl, rfl⟩, q1, q2, q3⟩
   · by_cases hroom : l.length + m.length ≤ cap
     · have hfit : l.length * i.size + ys.length ≤ cur.size := by rw [hyl, k4, ← jA]; exact jK _ hroom
       have hr := run_append_room (P := P) w t o.type e i hu hii g l.length cap cur k1 ⟨b, o', none⟩ m.length c ys hyl hnews g6 hroom hfit
       unfold Oper.wp
       rw [hrun0 _ hr]
       generalize hnew : (cur.toList.take (l.length * i.size) ++ ys ++ cur.toList.drop (l.length * i.size + ys.length)) = new
       have hh := setRow_heap w g cur new.toArray e (0, 0) k1
       have htl : (cur.toList.take (l.length * i.size)).length = l.length * i.size := by rw [k5, k8]
       have hnewl : new.take ((l.length + m.length) * i.size) = xs ++ ys := by
        rw [← hnew, k5]
        have : (xs ++ ys).length = (l.length + m.length) * i.size := by rw [jb, k8, hyl, jA]
        rw [← this]
        exact vH
       have gr : zT p w p (w.setRow g new.toArray) := fun a' ha => ⟨ha, qiJ (setRow_other w g _ _ (k9 g rfl a' ha))⟩
       have hle : (l.length + m.length) * i.size ≤ cap * i.size := jK _ hroom
       have hnl : new.length = cap * i.size := by
        rw [← hnew]
        simp only [jb, List.length_drop, htl, hyl, jY, k4]
        rw [jA] at hle
        omega
       refine ⟨.slice (some ⟨g, 0, none⟩) (l.length + m.length) cap, .vec (.slice (some ⟨g, 0, none⟩) (l.length + m.length) cap) (l.length + m.length), _, p, rfl, ⟨_, rfl, rfl⟩, ?_, ?_, gr⟩
       · simp only [Rep]
         exact ⟨trivial, _, cap, rfl, hroom, by omega⟩
       · refine hi'.write (b := g) rfl rfl gr (fun a' ha => .inl ha) ⟨hlm, hs0, ⟨xs ++ ys, ⟨by rw [jb, jb, k8, hyl, jA], .inr ⟨g, cap, new.toArray, by rw [jb], jf _, hh, by rw [jb]; exact hroom, k3, by simpa using hnl, by rw [jb]; simpa using hnewl⟩⟩, (k6.app g5).grow gr, fun x hx => (jj.1 hx).elim (k7 x) (g6 x)⟩, fun g' hg' a' ha hab => k9 g rfl a' ha (by simp only [Value.ownBlock, Option.some.injEq] at hg'; exact hab.trans hg'.symm)⟩ (fun a' ha => ?_) rfl rfl rfl og fun k hk => setRow_other w g k _ hk
         obtain ⟨v, hv⟩ := hi.pub a' ha
         exact ⟨v, by rw [(gr a' ha).2]; exact hv⟩
     · have holds : ∀ j v, xs[j]? = some v → w.cell? ((⟨g, 0, none⟩ : Addr).add j) = some v := fun j v hv => by
        rw [zbB, jx, cell_of_row _ _ _ _ _ _ k1]
        have hj := (ju.1 hv).1
        rw [← k5, vc, if_pos oa] at hv
        simpa using hv
       have hr := run_append_grow (P := P) w t o.type e i z hu hii hz' ⟨g, 0, none⟩ l.length cap xs k8 holds ⟨b, o', none⟩ m.length c ys hyl hnews oa oa (growslice_fits oa hb)
       obtain ⟨u', hu', q1, q2, q3⟩ := grown cap oa
       unfold Oper.wp
       rw [hrun0 _ hr]
       subst hu'
       exact ⟨_, _, _, p, rfl, ⟨_, rfl, rfl⟩, q1, q2, q3⟩
theorem qjG {t e : TypeId} {x : Operand} {n i s off : Nat} {u : Value} {path : List Nat} {σ : St} {l : List D} {d0 : D} (ho : o.op = .load t x) (hx : ρ x = some (.mref (zbe u) i s off path)) (hσ : .vec u l e s ∈ σ) (hl : l[i]? = some d0) (hs : yX d0 path = some d) (hoff : yv d0 path = off) (ht : Ty P t d.isAgg n) (hn : sz d = n) : zA P o ρ σ fun d' σ' => d' = d ∧ σ' = σ := fun K p a w hi h => by
 have h1 := h x (by rw [ho]; simp [Op.operands]) _ hx
 simp only [Rep] at h1
 obtain ⟨g, cap, xs, junk, rfl, g3, g4, g5, g6, _⟩ := qu0 (hi.ok _ hσ) (fun h => by rw [h] at hl; simp at hl)
 have g1 : zO s l := (hi.ok _ hσ).1
 obtain ⟨v0, hv0, hc0⟩ := g3.at_cell hl
 obtain ⟨v, hv, hc⟩ := qj8 hv0 hs
 have hmin : (l.take i).length = i := by have := (ju.1 hl).1; simp; omega
 rw [(g1.take i).szs, hmin] at hc0
 have hlr := qiu (P := P) (b := g) (o := i * s + off) ht hn hv (fun j y hy => by
  rw [cell_of_row _ _ _ _ _ _ g5, ← hoff]
  have := hc0 _ y (hc j y hy)
  have hlt := (ju.1 this).1
  simp only [vX]
  rw [jL, jT hlt]
  exact this)
 have hr : (execOp a.eval o).run P w = .ok (.value v) w := by
  unfold execOp
  rw [ho]
  simp [h1, zbe, Value.ownBlock, Instr.loadAt, Instr.sureAddr, hlr]
 unfold Oper.wp
 rw [hr]
 exact ⟨v, d, σ, p, rfl, ⟨rfl, rfl⟩, hv, hi, zT.refl p w⟩
theorem qzQ {t e : TypeId} {x y : Operand} {n i s off : Nat} {u : Value} {path : List Nat} {σ : St} (τ : St) {l : List D} {d0 dOld dn : D} {ag : Bool} (ho : o.op = .store t x y) (hx : ρ x = some (.mref (zbe u) i s off path)) (hy : ρ y = some dn) (hw : Wk dn d) (hσ : σ.Perm (.vec u l e s :: τ)) (hl : l[i]? = some d0) (hp0 : d0.plain = true) (hs : yX d0 path = some dOld) (hoff : yv d0 path = off) (ht : Ty P t ag n) (hn : sz d = n) (hn' : sz dOld = n) (hp : d.plain = true) : zA P o ρ σ fun _ σ' => σ' = .vec u (l.set i (zaN d0 path d)) e s :: τ := fun K p a w hi h => by
 have h1 := h x (by rw [ho]; simp [Op.operands]) _ hx
 simp only [Rep] at h1
 have h2 := hw _ _ _ (h y (by rw [ho]; simp [Op.operands]) _ hy)
 have hi' := hi.perm hσ
 have hob := hi'.ok _ (jc ..)
 obtain ⟨b, cap, xs, junk, rfl, g3, g4, g5, g6, c1, c2, c3⟩ := qu0 hob (fun h => by rw [h] at hl; simp at hl)
 obtain ⟨g1, g0, _, _⟩ := hob
 obtain ⟨ii, hii, hin⟩ := jN.1 ht.2
 have hsz : (a.eval y).cells.size = n := by rw [Rep.sz h2, hn]
 have hil := (ju.1 hl).1
 have hmin : (l.take i).length = i := by simp; omega
 obtain ⟨v0, hv0, hsplit, hlen1⟩ := g3.at_ hl
 obtain ⟨v', q1, q2, q3, q4, q5⟩ := qoH hv0 hs (by rw [hn, hn']) h2 hp hp0
 have hset := zu.set g3 hl q5 q1
 rw [(g1.take i).szs, hmin] at hsplit hlen1 hset
 have hd0 : sz d0 = s := g1 d0 (List.mem_of_getElem? hl)
 have hv0l : v0.cells.toList.length = s := by rw [← hd0]; simpa using Rep.sz hv0
 have hxl : xs.length = l.length * s := by rw [g3.len, g1.szs]
 have hle : (i + 1) * s ≤ l.length * s := jK s oa
 rw [jA, jU] at hle
 have hst := run_storeCells_at (P := P) b (i * s + off) e (a.eval y).cells.toList 0 (xs ++ junk).toArray w g5 (by
  simp only [jY, hsz, j9, vb, jb]
  rw [hd0, hn, hoff] at q4
  omega) (Rep.one h2 hp)
 have hrow : ((xs ++ junk).toArray.toList.take (i * s + off + 0) ++ (a.eval y).cells.toList ++ (xs ++ junk).toArray.toList.drop (i * s + off + 0 + (a.eval y).cells.toList.length)).toArray = ((xs.take (i * s) ++ v'.cells.toList ++ xs.drop (i * s + s)) ++ junk).toArray := by
  congr 1
  simp only [j9, jY, hsz, ← hn]
  rw [q3, hoff]
  rw [hd0, hoff] at q4
  generalize hA : xs.take (i * s) = A at hsplit hlen1 ⊢
  generalize hB : xs.drop (i * s + s) = B
  rw [hd0, hB] at hsplit
  rw [hsplit]
  have e1 : (A ++ v0.cells.toList ++ B ++ junk).take (i * s + off) = A ++ v0.cells.toList.take off := by
   rw [← hlen1, jk, jk, ve, Je oa]
  have e2 : (A ++ v0.cells.toList ++ B ++ junk).drop (i * s + off + sz d) = v0.cells.toList.drop (off + sz d) ++ (B ++ junk) := by
   rw [← hlen1, jk, jk, jL, vd, Jf oa]
  rw [e1, e2]
  simp only [jk]
 rw [hrow] at hst
 have hr : (execOp a.eval o).run P w = .ok .skip (w.setRow b ((xs.take (i * s) ++ v'.cells.toList ++ xs.drop (i * s + s)) ++ junk).toArray) := by
  unfold execOp
  rw [ho]
  simp only [h1, zbe, Value.ownBlock, vD, Instr.storeAt, Instr.sureAddr, storeVar, Sem.run_bind, Sem.run_pure, Result.andThen_ok, sizeOf, typeInfo, run_program, hii, hsz, hin, ne_eq, not_true_eq_false, if_false, hst]
 have gr : zT p w p (w.setRow b ((xs.take (i * s) ++ v'.cells.toList ++ xs.drop (i * s + s)) ++ junk).toArray) := fun a' ha => ⟨ha, qiJ (setRow_other w b _ _ (g6 a' ha))⟩
 unfold Oper.wp
 rw [hr]
 refine ⟨Go.undef, .undef, _, p, rfl, rfl, by simp only [Rep], ?_, gr⟩
 rw [q5, hd0] at hset
 have hnl : (xs.take (i * s) ++ v'.cells.toList ++ xs.drop (i * s + s)).length = l.length * s := by
  have e3 := hset.len
  rw [e3]
  have hall : zO s (l.set i (zaN d0 path d)) := fun e' he' => by
   rcases vZ he' with h | rfl
   exact g1 e' h
   rw [q5, hd0]
  rw [hall.szs]
  simp
 refine hi'.write (b := b) rfl rfl gr (fun a' ha => .inl ha) ⟨fun e' he' => ?_, g0, ⟨_, ⟨by rw [hnl]; simp, .inr ⟨b, cap, _, by simp, jf _, setRow_heap w b _ _ _ _ g5, by simpa using c1, c2, ?_, ?_⟩⟩, hset.grow gr, fun u hu => ?_⟩, fun g' hg' a' ha hab => g6 a' ha (by simp only [Value.ownBlock, Option.some.injEq] at hg'; exact hab.trans hg'.symm)⟩ (fun a' ha => ?_) rfl rfl rfl og fun k hk => setRow_other w b k _ hk
 rcases vZ he' with h | rfl
 exact g1 e' h
 rw [q5, hd0]
 rw [vb, jb, hnl, ← hxl, ← jb, c3]
 simp only [List.length_set]
 rw [← hnl]
 exact vH
 rcases jj.1 hu with hu | hu
 rcases jj.1 hu with hu | hu
 exact g4 u (j4 hu)
 exact Rep.one q1 q2 u hu
 exact g4 u (jW hu)
 obtain ⟨u, hu⟩ := hi.pub a' ha
 exact ⟨u, by rw [(gr a' ha).2]; exact hu⟩
end
section
variable {P : Program} {f : FuncId} {fn : Func} {K : Ctx} {R : D → St → Prop} {k : List Item} {env : Env} {σ τ : St}
theorem qAv {m : Md} (e : TypeId) (s : Nat) (hs0 : 0 < s) (h : zj m P f fn K R k env (.vec (.slice none 0 0) ([] : List D) e s :: σ)) : zj m P f fn K R k env σ := fun p a w hi =>
 h p a w (hi.more (o := .vec (.slice none 0 0) [] e s) ⟨zO.nil s, hs0, ⟨[], World.ownsRow_nil w 0 e s, zu.nil _ _, by simp⟩, fun g hg => by simp [Value.ownBlock] at hg⟩ (fun b hb => by simp [Ob.blk, Value.ownBlock] at hb))
end
abbrev wr (n : Int) : Int := IntKind.i64.wrap n
theorem qgI {n : Int} (h : -9223372036854775808 ≤ n ∧ n < 9223372036854775808) : wr n = n := wrap64 h
def zh {α : Type} (l : List α) (n : Int) : Option α := if 0 ≤ n then l[n.toNat]? else none
theorem qdl {α : Type} (l : List α) (i : Nat) : zh l (i : Int) = l[i]? := by simp [zh]
theorem qb3 {α : Type} {l : List α} {n : Int} {q : α} (h : zh l n = some q) : 0 ≤ n ∧ l[n.toNat]? = some q := by
 unfold zh at h
 split at h
 exact ⟨by assumption, h⟩
 cases h
def zz {α : Type} (b : Nat) (l m : List α) : Option (List α) := if (l.length + m.length) * b ≤ 140737488355328 ∧ l.length + m.length ≤ 9223372036854775807 then some (l ++ m) else none
theorem qjj {α : Type} {b : Nat} {l m : List α} (h : (l.length + m.length) * b ≤ 140737488355328) (h2 : l.length + m.length ≤ 9223372036854775807) : zz b l m = some (l ++ m) := by rw [zz, if_pos ⟨h, h2⟩]
theorem qta {α : Type} {b : Nat} {l m r : List α} (h : zz b l m = some r) : (l.length + m.length) * b ≤ 140737488355328 ∧ l.length + m.length ≤ 9223372036854775807 ∧ r = l ++ m := by
 unfold zz at h
 split at h
 rename_i h1
 exact ⟨h1.1, h1.2, (Option.some.inj h).symm⟩
 cases h
def zS {α : Type} (l : List α) (lo hi : Int) : Option (List α) := if 0 ≤ lo ∧ lo ≤ hi ∧ hi ≤ l.length then some ((l.take hi.toNat).drop lo.toNat) else none
theorem qxw {α : Type} {l r : List α} {lo hi : Int} (h : zS l lo hi = some r) : 0 ≤ lo ∧ lo ≤ hi ∧ hi ≤ l.length ∧ r = (l.take hi.toNat).drop lo.toNat := by
 unfold zS at h
 split at h
 rename_i h1
 exact ⟨h1.1, h1.2.1, h1.2.2, (Option.some.inj h).symm⟩
 cases h
def zap (b : Nat) (n : Int) : Option Nat := if 0 ≤ n ∧ b * n.toNat ≤ 281474976710656 ∧ n.toNat ≤ 9223372036854775807 then some n.toNat else none
theorem qrH {b : Nat} {n : Int} {r : Nat} (h : zap b n = some r) : n = (r : Int) ∧ b * r ≤ 281474976710656 ∧ r ≤ 9223372036854775807 := by
 unfold zap at h
 split at h
 rename_i h1
 obtain rfl := Option.some.inj h
 exact ⟨by omega, h1.2.1, h1.2.2⟩
 cases h
theorem zb {α β : Type} {o : Option α} {f : α → Option β} {r : β} (h : o.bind f = some r) : ∃ q, o = some q ∧ f q = some r := by
 cases o with
 | none => cases h
 | some q => exact ⟨q, rfl, h⟩
theorem exK {β γ : Type} (F : β → γ) {a : β} {r : γ} (h : F a = r) : ∃ k, k = a ∧ F k = r := ⟨a, rfl, h⟩
theorem zd {α : Type} (l : List α) (i : Nat) (hi : i ≤ l.length) : (decide ((i : Int) < (l.length : Int)) = false ∧ l.drop i = [] ∧ i = l.length) ∨ ∃ q, decide ((i : Int) < (l.length : Int)) = true ∧ l.drop i = q :: l.drop (i + 1) ∧ zh l (i : Int) = some q ∧ i < l.length := by
 by_cases h : i < l.length
 exact .inr ⟨l[i], decide_eq_true oa, j2 h, by rw [qdl]; exact js h, h⟩
 exact .inl ⟨decide_eq_false oa, va oa, by omega⟩
theorem zaU (i n : Int) (m : Nat) (hm : m = (n - i).toNat) : (m = 0 ∧ decide (i < n) = false) ∨ ∃ m', m = m' + 1 ∧ decide (i < n) = true ∧ m' = (n - (i + 1)).toNat ∧ i < n := by
 by_cases h : i < n
 exact .inr ⟨(n - (i + 1)).toNat, by omega, decide_eq_true h, rfl, h⟩
 exact .inl ⟨by omega, decide_eq_false h⟩
theorem yT (m : Nat) : (m = 0 ∧ decide ((m : Int) - 1 ≥ 0) = false) ∨ ∃ m', m = m' + 1 ∧ decide ((m : Int) - 1 ≥ 0) = true := by
 cases m with
 | zero => exact .inl ⟨rfl, by decide⟩
 | succ k => exact .inr ⟨k, rfl, decide_eq_true oa⟩
section
variable {P : Program} {X : Env → D → St → Prop} {l : List Oper} {rest : List (Nat × Cls)} {env : Env} {σ : St} {f : FuncId} {fn : Func} {K : Ctx} {R : D → St → Prop} {k : List Item}
theorem zt {m : Md} {α : Type} (s : Nat) {b : Bool} {x y : Option α} {res : α} (hs : lk env s = some (.bool b)) (hr : (bif b then x else y) = some res) (h1 : b = true → x = some res → Run P l.toArray X (zj m P f fn K R k) rest ((s, .bool true) :: env) σ) (h2 : b = false → y = some res → Run P l.toArray X (zj m P f fn K R k) rest ((s, .bool false) :: env) σ) : Run P l.toArray X (zj m P f fn K R k) rest env σ :=
 qsp s hs (fun h => h1 h (by rw [h] at hr; exact hr)) fun h => h2 h (by rw [h] at hr; exact hr)
theorem zi {m : Md} {α : Type} (s : Nat) {b : Bool} {x y : Option α} {res : α} (hs : lk env s = some (.bool b)) (hr : (bif b then x else y) = some res) (h1 : b = true → x = some res → zj m P f fn K R k ((s, .bool true) :: env) σ) (h2 : b = false → y = some res → zj m P f fn K R k ((s, .bool false) :: env) σ) : zj m P f fn K R k env σ :=
 qsr s hs (fun h => h1 h (by rw [h] at hr; exact hr)) fun h => h2 h (by rw [h] at hr; exact hr)
theorem qz {m : Md} {id : Nat} {c : Code} (J : Env → St → Prop) (hJ : ∀ env σ, J env σ → zj m P f fn K R k env σ) (h : (∀ env σ, J env σ → zj m P f fn K R k env σ) → zj m P f fn K R (.code c :: .inBlock id :: k) env σ) : zj m P f fn K R (.code (.block id c) :: k) env σ := qD (h hJ)
end
theorem pf0 {α : Type} (l : List α) : l.Perm l := List.Perm.refl _
theorem pf1 {α : Type} (a b : α) (l : List α) : (a :: b :: l).Perm (b :: a :: l) := List.Perm.swap b a l
theorem pf2 {α : Type} (a b c : α) (l : List α) : (a :: b :: c :: l).Perm (c :: a :: b :: l) := ((pf1 b c l).cons a).trans (pf1 a c _)
theorem pf3 {α : Type} (a b c d : α) (l : List α) : (a :: b :: c :: d :: l).Perm (d :: a :: b :: c :: l) := ((pf2 b c d l).cons a).trans (pf1 a d _)
theorem pf4 {α : Type} (a b c d e : α) (l : List α) : (a :: b :: c :: d :: e :: l).Perm (e :: a :: b :: c :: d :: l) := ((pf3 b c d e l).cons a).trans (pf1 a e _)
theorem pf5 {α : Type} (a b c d e f : α) (l : List α) : (a :: b :: c :: d :: e :: f :: l).Perm (f :: a :: b :: c :: d :: e :: l) := ((pf4 b c d e f l).cons a).trans (pf1 a f _)
section
variable {P : Program} {o : Oper} {ρ : Operand → Option D} {d : D} {α : Type} {f : α → D}
theorem qur {t e : TypeId} {x ix : Operand} {s by_ : Nat} {dx : D} (l : List α) {k : IntKind} {n : Int} {q : α} (ho : o.op = .indexAddr t x ix) (hE : ElT P t e s by_) (hx : ρ x = some dx) (hl : AsL dx (l.map f)) (hix : ρ ix = some (.int k n)) (hq : zh l n = some q) (hall : ∀ a, sz (f a) = s) (hp : (f q).plain = true) : zE P o ρ (.ptr (f q)) := by
 obtain ⟨h0, h1⟩ := qb3 hq
 exact qBG n.toNat ho hE hx hl hix oa (zaI h1) (zbZ hall) hp
theorem qau {x y : Operand} {t e : TypeId} {s by_ : Nat} {σ τ : St} {u : Value} (l m : List α) {r : List α} {dy : D} {n : Nat} (ho : o.op = .call { callee := .builtin .append, args := #[x, y], argTypes := #[t, t] }) (hE : ElT P t e s by_) (hx : ρ x = some (.own u (l.map f))) (hy : ρ y = some dy) (hm : AsL dy (m.map f)) (hσ : σ.Perm (.row u n e s :: τ)) (hn : n = l.length) (hall : ∀ a, sz (f a) = s) (hr : zz by_ l m = some r) :
 zA P o ρ σ fun d' σ' => ∃ u', d' = .own u' (r.map f) ∧ σ' = .row u' r.length e s :: τ := by
 obtain ⟨h1, h2, rfl⟩ := qta hr
 have h := qAs (P := P) (o := o) (ρ := ρ) (σ := σ) (τ := τ) (u := u) (l := l.map f) (m := m.map f) ho hE hx hy hm (by rw [jd, ← hn]; exact hσ) (zbZ hall) (zbZ hall) (by simpa using h1) (by simpa using h2)
 rw [← jM, jd] at h
 exact h
theorem qiR {t e : TypeId} {x : Operand} {low high : Option Operand} {s by_ : Nat} {dx : D} (l : List α) {r : List α} (lo hi : Int) (ho : o.op = .slice t x low high none) (hE : ElT P t e s by_) (hx : ρ x = some dx) (hl : AsL dx (l.map f)) (h1 : ∀ n : Nat, (n : Int) = lo → zaO ρ low n) (h2 : ∀ n : Nat, (n : Int) = hi → zaW ρ l.length high n) (hall : ∀ a, sz (f a) = s) (hr : zS l lo hi = some r) : zE P o ρ (.lst (r.map f)) := by
 obtain ⟨g1, g2, g3, rfl⟩ := qxw hr
 have := qDP lo.toNat hi.toNat ho hE hx hl (h1 _ oa) (by rw [jd]; exact h2 _ oa) oa (by rw [jd]; omega) (zbZ hall)
 rwa [← List.map_take, ← List.map_drop] at this
theorem qgm : ∀ n : Nat, (n : Int) = 0 → zaO ρ none n := fun n h => by unfold zaO; omega
theorem qnD {x : Operand} {k : IntKind} {m : Int} (h : ρ x = some (.int k m)) : ∀ n : Nat, (n : Int) = m → zaO ρ (some x) n := fun n e => ⟨k, m, h, e.symm⟩
theorem qnX {len : Nat} : ∀ n : Nat, (n : Int) = (len : Int) → zaW ρ len none n := fun n h => by unfold zaW; omega
theorem qgq {len : Nat} {x : Operand} {k : IntKind} {m : Int} (h : ρ x = some (.int k m)) : ∀ n : Nat, (n : Int) = m → zaW ρ len (some x) n := fun n e => ⟨k, m, h, e.symm⟩
theorem qyA {x : Operand} {t e : TypeId} {s by_ : Nat} {dx : D} (l : List α) (ho : o.op = .call { callee := .builtin .len, args := #[x], argTypes := #[t] }) (hE : ElT P t e s by_) (hx : ρ x = some dx) (hl : AsL dx (l.map f)) : zE P o ρ (.int .i64 (l.length : Int)) := by
 have := qDE ho hE hx hl
 rwa [jd] at this
theorem qxr {t e : TypeId} {x y : Operand} {s by_ : Nat} {k k' : IntKind} {a1 : Int} {r : Nat} (z : α) {σ : St} (ho : o.op = .makeSlice t x y) (hE : ElT P t e s by_) (hZ : z7 P e (f z)) (hx : ρ x = some (.int k a1)) (hy : ρ y = some (.int k' a1)) (hr : zap by_ a1 = some r) :
 zA P o ρ σ fun d' σ' => ∃ b, d' = .arr b s 0 r ∧ σ' = .arr b ((List.replicate r z).map f) e s :: σ := by
 obtain ⟨rfl, h2, h3⟩ := qrH hr
 rw [List.map_replicate]
 exact qxE ho hE hZ hx rfl hy rfl h2 h3
theorem qBP {t e : TypeId} {x y : Operand} {s by_ : Nat} {k k' : IntKind} {a1 : Int} {r : Nat} {σ : St} (ho : o.op = .makeSlice t x y) (hE : ElT P t e s by_) (hx : ρ x = some (.int k 0)) (hy : ρ y = some (.int k' a1)) (hr : zap by_ a1 = some r) :
 zA P o ρ σ fun d' σ' => ∃ u, d' = .own u (([] : List α).map f) ∧ σ' = .row u ([] : List α).length e s :: σ := by
 obtain ⟨h1, h2, h3⟩ := qrH hr
 exact qBy ho hE hx hy h1 h2 h3
theorem qe2 {t e : TypeId} {n s by_ : Nat} {parts : Array (Nat × Operand)} (xs : List Operand) (l : List α) (ho : o.op = .buildSlice t n parts) (hE : ElT P t e s by_) (hps : parts.toList = (xs.zipIdx 0).map fun x => (x.2, x.1)) (hn : n = xs.length) (hn0 : 0 < n) (hsm : n * s ≤ 16777216) (hO : zal ρ xs (l.map f)) (hall : ∀ a, sz (f a) = s) (hpl : ∀ a, (f a).plain = true) : zE P o ρ (.full (l.map f)) :=
 qDK xs ho hE hps hn hn0 hsm hO (zbZ hall) fun d hd => by
  obtain ⟨a, _, rfl⟩ := jq.1 hd
  exact hpl a
theorem qxi {t e : TypeId} {x ix : Operand} {s by_ b lo n : Nat} {k : IntKind} {m : Int} {q : α} (l : List α) (ho : o.op = .indexAddr t x ix) (hE : ElT P t e s by_) (hx : ρ x = some (.arr b s lo n)) (hix : ρ ix = some (.int k m)) (hq : zh l m = some q) (hn : l.length = n) : zE P o ρ (.mref b (lo + m.toNat) s 0 []) := by
 obtain ⟨h0, h1⟩ := qb3 hq
 exact qwC m.toNat ho hE hx hix oa (by rw [← hn]; exact (ju.1 h1).1)
end
/-! ### maps as lists of pairs -/
section
variable {α β : Type} [DecidableEq α]
def zx : List (α × β) → α → Option β
 | [], _ => none
 | q :: l, x => if q.1 = x then some q.2 else zx l x
def zaw : List (α × β) → α → β → List (α × β)
 | [], x, d => [(x, d)]
 | q :: l, x, d => if q.1 = x then (x, d) :: l else q :: zaw l x d
theorem qt6 (g : β → D) : ∀ (l : List (α × β)) (x : α), zai (l.map fun q => (q.1, g q.2)) x = (zx l x).map g
 | [], _ => rfl
 | q :: l, x => by
  simp only [jr, zai, zx]
  split
  rfl
  exact qt6 g l x
theorem qvO (g : β → D) : ∀ (l : List (α × β)) (x : α) (d : β), za6 (l.map fun q => (q.1, g q.2)) x (g d) = (zaw l x d).map fun q => (q.1, g q.2)
 | [], _, _ => rfl
 | q :: l, x, d => by
  simp only [jr, za6, zaw]
  split
  rfl
  rw [qvO g l x d]; rfl
theorem qtT : ∀ (l : List (α × β)) (x y : α) (d : β), zx (zaw l x d) y = if x = y then some d else zx l y
 | [], x, y, d => by simp [zaw, zx]
 | q :: l, x, y, d => by
  simp only [zaw]
  split
  rename_i h
  simp only [zx]
  split
  rfl
  rename_i h2; rw [if_neg (by rw [h]; exact h2)]
  rename_i h
  simp only [zx, qtT l x y d]
  by_cases h1 : q.1 = y
  rw [if_pos h1, if_neg (fun h2 => h (h1.trans h2.symm)), if_pos h1]
  rw [if_neg h1, if_neg h1]
theorem qoD : ∀ (l : List (α × β)) (x : α) (d : β), (zaw l x d).length ≤ l.length + 1
 | [], _, _ => by simp [zaw]
 | q :: l, x, d => by
  unfold zaw
  split
  simp
  have := qoD l x d
  simp only [jg]
  omega
end
abbrev z9 {α β : Type} (key : α → D) (g : β → D) (l : List (α × β)) : List (D × D) := l.map fun q => (key q.1, g q.2)
theorem quE {α β : Type} (key : α → D) (g : β → D) (l : List (α × β)) : z9 key g l = zbb key (l.map fun q => (q.1, g q.2)) := by simp [jJ, Function.comp_def]
def zbr {α β : Type} [DecidableEq α] (l : List (α × β)) (x : α) (d : β) : Option (List (α × β)) := if l.length < 9223372036854775807 then some (zaw l x d) else none
theorem qxj {α β : Type} [DecidableEq α] {l r : List (α × β)} {x : α} {d : β} (h : zbr l x d = some r) : l.length < 9223372036854775807 ∧ r = zaw l x d := by
 unfold zbr at h
 split at h
 exact ⟨by assumption, (Option.some.inj h).symm⟩
 cases h
def ZeroM (P : Program) (e : TypeId) (z : D) : Prop := ∃ zv, (P.info? e).map (·.zero) = some (some zv) ∧ ∀ p w, Rep p w z zv
section
variable {P : Program} {o : Oper} {ρ : Operand → Option D} {α β : Type} [DecidableEq α] {key : α → D} {g : β → D}
theorem qx7 {t kt e : TypeId} {x y : Operand} {vk : α → Value} {d : Value → Prop} {r : Nat} (l : List (α × β)) (a0 : α) (z : β) {σ : St} (ho : o.op = .lookup t x y true) (ht : P.underlying t = some (.map kt e)) (hK : zaJ P kt key vk d) (hz : ZeroM P e (g z)) (hx : ρ x = some (.map r)) (hy : ρ y = some (key a0)) (hσ : .map r (z9 key g l) ∈ σ) :
 zA P o ρ σ fun d' σ' => d' = .tup [g ((zx l a0).getD z), .bool (zx l a0).isSome] ∧ σ' = σ := by
 obtain ⟨zv, h1, h2⟩ := hz
 rw [quE] at hσ
 have := qyj ho ht hK h1 h2 hx hy hσ
 rw [qt6, Option.isSome_map] at this
 have e1 : ((zx l a0).map g).getD (g z) = g ((zx l a0).getD z) := by cases zx l a0 <;> rfl
 rwa [e1] at this
theorem quH {t kt e : TypeId} {x y v : Operand} {vk : α → Value} {d : Value → Prop} {r : Nat} (l : List (α × β)) (a0 : α) (b0 : β) {l' : List (α × β)} {dn : D} {σ τ : St} (ho : o.op = .mapUpdate t x y v) (ht : P.underlying t = some (.map kt e)) (hK : zaJ P kt key vk d) (hx : ρ x = some (.map r)) (hy : ρ y = some (key a0)) (hv : ρ v = some dn) (hw : Wk dn (g b0)) (hσ : σ.Perm (.map r (z9 key g l) :: τ)) (hl : zbr l a0 b0 = some l') :
 zA P o ρ σ fun _ σ' => σ' = .map r (z9 key g l') :: τ := by
 obtain ⟨h1, rfl⟩ := qxj hl
 rw [quE] at hσ
 have := quM τ ho ht hK hx hy hv hw hσ (by rw [jd]; exact h1)
 rwa [qvO, ← quE] at this
end
theorem qtn {P : Program} {o : Oper} {ρ : Operand → Option D} {α β : Type} {key : α → D} {g : β → D} {t : TypeId} {σ : St} (ho : o.op = .makeMap t none) : zA P o ρ σ fun d' σ' => ∃ r, d' = .map r ∧ σ' = .map r (z9 key g ([] : List (α × β))) :: σ := qxJ ho
/-! ### facts out of slots -/
section
variable {P : Program} {f : FuncId} {fn : Func} {K : Ctx} {R : D → St → Prop} {k : List Item} {env : Env} {σ : St}
theorem qpE {m : Md} (s : Nat) (path : List Nat) {d0 dx : D} {l : List D} (hs : lk env s = some (.ptr d0)) (hp : yX d0 path = some dx) (hl : AsL dx l) (h : l.length ≤ 9223372036854775807 → zj m P f fn K R k env σ) : zj m P f fn K R k env σ :=
 qrE (fun p a w _ hr => by
  have h1 := hr s _ hs
  simp only [Rep] at h1
  obtain ⟨b, o, u, _, _, h2, _⟩ := h1
  obtain ⟨v, h3, _⟩ := qj8 h2 hp
  obtain ⟨A, c, xs, _, g2, g3, _⟩ := hl.rep h3
  omega) h
theorem qy4 {m : Md} (s : Nat) (path : List Nat) {d0 dx : D} {l : List D} (hs : lk env s = some d0) (hp : yX d0 path = some dx) (hl : AsL dx l) (h : l.length ≤ 9223372036854775807 → zj m P f fn K R k env σ) : zj m P f fn K R k env σ :=
 qrE (fun p a w _ hr => by
  obtain ⟨v, h3, _⟩ := qj8 (hr s _ hs) hp
  obtain ⟨A, c, xs, _, g2, g3, _⟩ := hl.rep h3
  omega) h
theorem qqK {m : Md} (s : Nat) {d d' : D} (hs : lk env s = some d) (hd : d = d') (h : zj m P f fn K R k ((s, d') :: env) σ) : zj m P f fn K R k env σ := by
 subst hd
 refine qnf _ env σ (fun t => ?_) h
 rw [qhX]
 split
 rename_i h; subst h; exact hs.symm
 rfl
theorem qoG {m : Md} (e : TypeId) (s : Nat) (h : zj m P f fn K R k env (.row (.slice none 0 0) ([] : List D).length e s :: σ)) : zj m P f fn K R k env σ := fun p a w hi =>
 h p a w (hi.more ⟨⟨[], World.ownsRow_nil w 0 e s⟩, fun g hg => by simp [Value.ownBlock] at hg⟩ (fun b hb => by simp [Ob.blk, Value.ownBlock] at hb))
theorem qn6 {m : Md} {E : Env} {S : St} (hs : Sub E env) (hp : σ.Perm S) (h : zj m P f fn K R k E S) : zj m P f fn K R k env σ := qmD E hs (qcz S [] (by simpa using hp) h)
theorem qpt {m : Md} {a b : Code} (J : Env → St → Prop) (hJ : ∀ env σ, J env σ → zj m P f fn K R (.code b :: k) env σ) (h : (∀ env σ, J env σ → zj m P f fn K R (.code b :: k) env σ) → zj m P f fn K R (.code a :: .code b :: k) env σ) : zj m P f fn K R (.code (.seq a b) :: k) env σ := qaC (h hJ)
theorem zav {X : Env → D → St → Prop} {Q : Env → St → Prop} {l : List Oper} {rest : List (Nat × Cls)} (σ' : St) (hs : σ = σ') (h : Run P l.toArray X Q rest env σ') : Run P l.toArray X Q rest env σ := hs ▸ h
end
def yS (n : Int) : Option Nat := if -1 ≤ n then some (n + 1).toNat else none
theorem qk7 {n : Int} {m : Nat} (h : yS n = some m) : n = (m : Int) - 1 := by
 unfold yS at h
 split at h
 have := Option.some.inj h; omega
 cases h
section
variable {P : Program} {o : Oper} {ρ : Operand → Option D} {d : D}
theorem qAg {t : TypeId} {x : Operand} {k : IntKind} {m : Int} (ho : o.op = .unOp .neg t x) (hx : ρ x = some (.int k m)) : zE P o ρ (.int k (k.wrap (-m))) := qex fun p a w h => by
 have h1 := h x (by rw [ho]; simp [Op.operands]) _ hx
 simp only [Rep] at h1
 refine ⟨.int k (k.wrap (-m)), ?_, by simp only [Rep]; exact ⟨trivial, qo3 k _⟩⟩
 unfold execOp
 rw [ho]
 simp [h1.1, Op.unary, Op.intArith]
theorem qDp {t t' : TypeId} {x y : Operand} {m n : Int} (ho : o.op = .binOp .quo t x y t') (hx : ρ x = some (.int .i64 m)) (hy : ρ y = some (.int .i64 n)) (hn : n ≠ 0) : zE P o ρ (.int .i64 (wr (Int.tdiv m n))) := qex fun p a w h => by
 have h1 := h x (by rw [ho]; simp [Op.operands]) _ hx
 have h2 := h y (by rw [ho]; simp [Op.operands]) _ hy
 simp only [Rep] at h1 h2
 refine ⟨.int .i64 (wr (Int.tdiv m n)), ?_, by simp only [Rep]; exact ⟨trivial, qo3 _ _⟩⟩
 unfold execOp
 rw [ho]
 simp only [h1.1, h2.1]
 simp [binOp, eqGuard, Op.intDiv, hn, wr]
def yf (m n : Int) : Int := if n < m then n else m
def yH (m n : Int) : Int := if n > m then n else m
theorem qlj (m n : Int) : yf m n = min m n := by unfold yf; omega
theorem qrS (m n : Int) : yH m n = max m n := by unfold yH; omega
theorem qAS {t t' : TypeId} {x y : Operand} {m n : Int} (ho : o.op = .call { callee := .builtin .min, args := #[x, y], argTypes := #[t, t'] }) (hx : ρ x = some (.int .i64 m)) (hy : ρ y = some (.int .i64 n)) : zE P o ρ (.int .i64 (yf m n)) := qex fun p a w h => by
 have h1 := h x (by rw [ho]; simp [Op.operands, Call.operands]) _ hx
 have h2 := h y (by rw [ho]; simp [Op.operands, Call.operands]) _ hy
 simp only [Rep] at h1 h2
 refine ⟨.int .i64 (yf m n), ?_, by simp only [Rep]; exact ⟨trivial, by unfold yf; split; exact h2.2; exact h1.2⟩⟩
 unfold execOp
 rw [ho]
 simp [resolve, invoke, builtin, h1.1, h2.1, Builtin.min_, Builtin.min2, yf]
theorem qCX {t t' : TypeId} {x y : Operand} {m n : Int} (ho : o.op = .call { callee := .builtin .max, args := #[x, y], argTypes := #[t, t'] }) (hx : ρ x = some (.int .i64 m)) (hy : ρ y = some (.int .i64 n)) : zE P o ρ (.int .i64 (yH m n)) := qex fun p a w h => by
 have h1 := h x (by rw [ho]; simp [Op.operands, Call.operands]) _ hx
 have h2 := h y (by rw [ho]; simp [Op.operands, Call.operands]) _ hy
 simp only [Rep] at h1 h2
 refine ⟨.int .i64 (yH m n), ?_, by simp only [Rep]; exact ⟨trivial, by unfold yH; split; exact h2.2; exact h1.2⟩⟩
 unfold execOp
 rw [ho]
 simp [resolve, invoke, builtin, h1.1, h2.1, Builtin.max_, Builtin.max2, yH]
theorem qS {x : Operand} {b off : Nat} {path : List Nat} (ho : o.op = .nilCheck x) (hx : ρ x = some (.ref b off path)) : zE P o ρ (.ref b off path) := qex fun p a w h => by
 have h1 := h x (by rw [ho]; simp [Op.operands]) _ hx
 refine ⟨a.eval x, ?_, h1⟩
 simp only [Rep] at h1
 unfold execOp
 rw [ho]
 simp [h1]
end
section
variable {P : Program} {o : Oper} {ρ : Operand → Option D} {α β : Type} {key : α → D} {g : β → D}
end
section
variable {P : Program} {f : FuncId} {fn : Func} {K : Ctx} {R : D → St → Prop} {k : List Item} {env : Env} {σ τ : St}
end
/-! ### lists that are appended to and written -/
section
variable {P : Program} {o : Oper} {ρ : Operand → Option D} {α : Type} {f : α → D}
theorem qAV {x y : Operand} {t e : TypeId} {s by_ n : Nat} {σ τ : St} {u : Value} (l m : List α) {r : List α} {dy : D} (ho : o.op = .call { callee := .builtin .append, args := #[x, y], argTypes := #[t, t] }) (hE : ElT P t e s by_) (hx : ρ x = some (.vec u n)) (hy : ρ y = some dy) (hm : AsL dy (m.map f)) (hσ : σ.Perm (.vec u (l.map f) e s :: τ)) (hall : ∀ a, sz (f a) = s) (hr : zz by_ l m = some r) :
 zA P o ρ σ fun d' σ' => ∃ u', d' = .vec u' r.length ∧ σ' = .vec u' (r.map f) e s :: τ := by
 obtain ⟨h1, h2, rfl⟩ := qta hr
 have h := qA0 (P := P) (o := o) (ρ := ρ) (σ := σ) (τ := τ) (u := u) (l := l.map f) (m := m.map f) ho hE hx hy hm hσ (zbZ hall) (by simpa using h1) (by simpa using h2)
 rw [← jM, jd] at h
 exact h
theorem qfH {t e : TypeId} {x ix : Operand} {s by_ n : Nat} {u : Value} {k : IntKind} {m : Int} {q : α} {σ : St} (l : List α) (ho : o.op = .indexAddr t x ix) (hE : ElT P t e s by_) (hx : ρ x = some (.vec u n)) (hix : ρ ix = some (.int k m)) (hq : zh l m = some q) (hσ : .vec u (l.map f) e s ∈ σ) : zA P o ρ σ fun d' σ' => d' = .mref (zbe u) m.toNat s 0 [] ∧ σ' = σ := by
 obtain ⟨h0, h1⟩ := qb3 hq
 exact qwN m.toNat ho hE hx hix oa (by rw [jd]; exact (ju.1 h1).1) hσ
end
theorem subT3 (t : T) : yX (zl t) [3] = some (.lst (t.ar.map zl)) := by
 simp [yX, zl, qeS]
section
variable {P : Program} {f : FuncId} {fn : Func} {K : Ctx} {R : D → St → Prop} {k : List Item} {env : Env} {σ : St}
theorem qvG {m : Md} {b : Nat} (path : List Nat) {d0 dx : D} {l : List D} (hσ : .cell b d0 ∈ σ) (hp : yX d0 path = some dx) (hl : AsL dx l) (h : l.length ≤ 9223372036854775807 → zj m P f fn K R k env σ) : zj m P f fn K R k env σ :=
 qrE (fun p a w hi _ => by
  obtain ⟨v0, ty, h1, _⟩ := hi.ok _ hσ
  obtain ⟨v, h3, _⟩ := qj8 h1 hp
  obtain ⟨A, c, xs, _, g2, g3, _⟩ := hl.rep h3
  omega) h
end
theorem ifS {α : Type} {c : Prop} [Decidable c] {a b : α} (h : (if c then some a else none) = some b) : c ∧ a = b := by
 split at h
 exact ⟨by assumption, Option.some.inj h⟩
 cases h
noncomputable def qj6 (t : T) : Option (Bool) := if wt t ≤ 1000000000 then some (zJ t) else none
theorem qgU (t : T) (h : wt t ≤ 1000000000) : qj6 t = some (zJ t) := if_pos h
theorem qdQ (t : T) (res : Bool) (h : qj6 t = some res) : zg Tryz.prog 95 [zl t] (.bool res) := by
 obtain ⟨h1, rfl⟩ := ifS h
 exact qux 1000000000 (jn _) t h1
noncomputable def qmc (t : T) (u : T) : Option (Bool) := if wt t ≤ 1000000000 then some (yV t u) else none
theorem qrG (t : T) (u : T) (h : wt t ≤ 1000000000) : qmc t u = some (yV t u) := if_pos h
theorem qfm (t : T) (u : T) (res : Bool) (h : qmc t u = some res) : zg Tryz.prog 184 [zl t, zl u] (.bool res) := by
 obtain ⟨h1, rfl⟩ := ifS h
 exact qwY 1000000000 (jn _) t u h1
noncomputable def qmC (a : At) : Option (Bool) := if wtL a.ts ≤ 1000000000 then some (zy a) else none
theorem qhr (a : At) (h : wtL a.ts ≤ 1000000000) : qmC a = some (zy a) := if_pos h
theorem qez (a : At) (res : Bool) (h : qmC a = some res) : zg Tryz.prog 47 [zU a] (.bool res) := by
 obtain ⟨h1, rfl⟩ := ifS h
 exact qoS 1000000000 (jn _) a h1
noncomputable def qhY (a : Gl) : Option (Bool) := if wtL a.ts ≤ 1000000000 then some (zn a) else none
theorem qgu (a : Gl) (h : wtL a.ts ≤ 1000000000) : qhY a = some (zn a) := if_pos h
theorem qnP (a : Gl) (res : Bool) (h : qhY a = some res) : zg Tryz.prog 66 [zB a] (.bool res) := by
 obtain ⟨h1, rfl⟩ := ifS h
 exact qnT 1000000000 (jn _) a h1
theorem qcm (a : Gl) (res : Bool) (h : qhY a = some res) : zg Tryz.prog 22 [zB a] (.bool res) := by
 obtain ⟨h1, rfl⟩ := ifS h
 exact qph 1000000000 (jn _) a h1
noncomputable def quZ (a : Gl) (b : Gl) : Option (Bool) := if wtL a.ts ≤ 1000000000 then some (y8 a b) else none
theorem qw7 (a : Gl) (b : Gl) (h : wtL a.ts ≤ 1000000000) : quZ a b = some (y8 a b) := if_pos h
theorem qjB (a : Gl) (b : Gl) (res : Bool) (h : quZ a b = some res) : zg Tryz.prog 168 [zB a, zB b] (.bool res) := by
 obtain ⟨h1, rfl⟩ := ifS h
 exact qqw 1000000000 (jn _) a b h1
noncomputable def qkK (s : ByteArray) : Option (Bool) := if s.size ≤ 9223372036854775807 then some (zM s) else none
theorem qhL (s : ByteArray) (res : Bool) (h : qkK s = some res) : zg Tryz.prog 17 [.str s] (.bool res) := by
 obtain ⟨h1, rfl⟩ := ifS h
 exact quK s h1
noncomputable def qu4 (a : At) : Option (List Int) := if wtL a.ts ≤ 1000000000 then some (yn [] (zo a.ts)) else none
theorem qwQ (a : At) (h : wtL a.ts ≤ 1000000000) : qu4 a = some (yn [] (zo a.ts)) := if_pos h
theorem qos (a : At) (res : List Int) (h : qu4 a = some res) : zg Tryz.prog 64 [zU a] (encI res) := by
 obtain ⟨h1, rfl⟩ := ifS h
 exact qoB 1000000000 (jn _) a h1
noncomputable def quN (t : T) : Option (Int) := if wt t ≤ 1000000000 then some (((zD t : Nat) : Int)) else none
theorem qrt (t : T) (h : wt t ≤ 1000000000) : quN t = some (((zD t : Nat) : Int)) := if_pos h
theorem qle (t : T) (res : Int) (h : quN t = some res) : zg Tryz.prog 58 [zl t] (.int .i64 res) := by
 obtain ⟨h1, rfl⟩ := ifS h
 exact qw3 1000000000 (jn _) t h1
def zm (x : Int × At) : D := .agg [.int .i64 x.1, zU x.2]
def y4 (_ : Unit) : D := .agg []
theorem qCc (a : Unit) : sz (y4 a) = 0 := rfl
theorem qen (a : At) : sz (zU a) = 2 := rfl
theorem qcJ (a : Gl) : sz (zB a) = 3 := rfl
theorem qgf (x : Int × At) : sz (zm x) = 3 := rfl
theorem qwl (n : Int) : -9223372036854775808 ≤ wr n ∧ wr n < 9223372036854775808 := by
 unfold wr
 simp only [IntKind.wrap, IntKind.bits, IntKind.signed]
 simp
 omega
inductive Wks : List D → List D → Prop
 | nil : Wks [] []
 | cons {d e : D} {ds es : List D} (h : Wk d e) (k : Wks ds es) : Wks (d :: ds) (e :: es)
theorem Wks.reps {ds es : List D} (h : Wks ds es) : ∀ {p : Addr → Prop} {w : World} {xs : List Value}, zu p w ds xs → zu p w es xs := by
 induction h with
 | nil => exact fun h => h
 | cons h _ ih =>
  intro p w xs hr
  simp only [zu] at hr ⊢
  obtain ⟨v, rest, h1, h2, h3⟩ := hr
  exact ⟨v, rest, h1, h _ _ _ h2, ih h3⟩
theorem Wk.agg {ds es : List D} (h : Wks ds es) : Wk (.agg ds) (.agg es) := fun p w v hv => by
 simp only [Rep] at hv ⊢
 obtain ⟨cs, h1, h2, h3⟩ := hv
 exact ⟨cs, h1, h.reps h2, h3⟩
inductive Ins (d0 : D) : D → Prop
 | refl : Ins d0 d0
 | ptr {d : D} (h : Ins d0 (.ptr d)) : Ins d0 d
 | sub {d dx : D} (h : Ins d0 d) (path : List Nat) (hp : yX d path = some dx) : Ins d0 dx
 | el {d dx : D} {l : List D} (h : Ins d0 d) (hl : AsL d l) (hm : dx ∈ l) : Ins d0 dx
theorem qvM {p : Addr → Prop} {w : World} : ∀ {l : List D} {xs : List Value}, zu p w l xs → ∀ d ∈ l, ∃ v, Rep p w d v
 | [], _, _, _, h => by cases h
 | d :: l, xs, h, x, hx => by
  simp only [zu] at h
  obtain ⟨v, rest, _, h1, h2⟩ := h
  rcases jh.1 hx with rfl | hx
  exact ⟨v, h1⟩
  exact qvM h2 x hx
theorem qCu {p : Addr → Prop} {w : World} {d0 dx : D} {v0 : Value} (h0 : Rep p w d0 v0) (h : Ins d0 dx) : ∃ v, Rep p w dx v := by
 induction h with
 | refl => exact ⟨v0, h0⟩
 | ptr _ ih =>
  obtain ⟨v, hv⟩ := ih
  simp only [Rep] at hv
  obtain ⟨b, o, u, _, _, h2, _⟩ := hv
  exact ⟨u, h2⟩
 | sub _ path hp ih =>
  obtain ⟨v, hv⟩ := ih
  obtain ⟨u, h3, _⟩ := qj8 hv hp
  exact ⟨u, h3⟩
 | el _ hl hm ih =>
  obtain ⟨v, hv⟩ := ih
  obtain ⟨A, c, xs, _, _, _, _, h4, _⟩ := hl.rep hv
  exact qvM h4 _ hm
theorem qmQ {P : Program} {o : Oper} {ρ : Operand → Option D} {α : Type} {t e : TypeId} {x ix : Operand} {s by_ b n : Nat} {k : IntKind} {m : Int} {q : α} (l : List α) (ho : o.op = .indexAddr t x ix) (hE : ElT P t e s by_) (hx : ρ x = some (.arr b s 0 n)) (hix : ρ ix = some (.int k m)) (hq : zh l m = some q) (hn : l.length = n) : zE P o ρ (.mref b m.toNat s 0 []) := by
 have := qxi l ho hE hx hix hq hn
 rwa [jx] at this
theorem qdB {α : Type} {l : List α} {i : Int} {q : α} (h : zh l i = some q) : q ∈ l := List.mem_of_getElem? (qb3 h).2
section
variable {P : Program} {f : FuncId} {fn : Func} {K : Ctx} {R : D → St → Prop} {k : List Item} {env : Env} {σ : St}
theorem qC3 {m : Md} (s : Nat) {d0 dx : D} {l : List D} (hs : lk env s = some d0) (hi : Ins d0 dx) (hl : AsL dx l) (h : l.length ≤ 9223372036854775807 → zj m P f fn K R k env σ) : zj m P f fn K R k env σ :=
 qrE (fun p a w _ hr => by
  obtain ⟨v, h3⟩ := qCu (hr s _ hs) hi
  obtain ⟨A, c, xs, _, g2, g3, _⟩ := hl.rep h3
  omega) h
end
theorem Inv.of {K K' : Ctx} {p : Addr → Prop} {σ : St} {w : World} (h0 : K'.w0 = K.w0) (hp : K'.p0 = K.p0) (hF : K'.F0 = K.F0) (h : Inv K p σ w) : Inv K' p σ w := by
 obtain ⟨w0, p0, F0, X⟩ := K
 obtain ⟨w0', p0', F0', X'⟩ := K'
 simp only at h0 hp hF
 subst h0 hp hF
 exact ⟨h.ok, h.nd, h.mine, h.pub, h.gr, h.neu, h.os, h.tape, h.output, h.size, h.block⟩
section
variable {P : Program} {f : FuncId} {fn : Func} {ds : List D} {σ : St} {R : D → St → Prop} {X : D → Prop}
end
section
variable {P : Program} {o : Oper} {ρ : Operand → Option D} {d : D} {σ : St}
end
section
variable {P : Program} {o : Oper} {ρ : Operand → Option D}
theorem qoJ {α : Type} {f : α → D} {σ : St} {t e : TypeId} {n s by_ : Nat} {parts : Array (Nat × Operand)} (xs : List Operand) (l : List α) (ho : o.op = .buildSlice t n parts) (hE : ElT P t e s by_) (hps : parts.toList = (xs.zipIdx 0).map fun x => (x.2, x.1)) (hn : n = xs.length) (hn0 : 0 < n) (hsm : n * s ≤ 16777216) (hO : zal ρ xs (l.map f)) (hall : ∀ a, sz (f a) = s) (hpl : ∀ a, (f a).plain = true) :
 zA P o ρ σ fun d' σ' => ∃ u, d' = .own u (l.map f) ∧ σ' = .row u l.length e s :: σ := fun K p a w hi h => by
 obtain ⟨hu, ⟨z, hz, hzs⟩, hs0⟩ := hE
 have hmem : ∀ x ∈ xs, x ∈ o.op.operands := fun x hx => by
  rw [ho]
  simp only [Op.operands, List.mem_toArray, hps, jJ, jq, Function.comp]
  obtain ⟨i, hi⟩ := List.mem_iff_getElem?.1 hx
  exact ⟨(x, i), by rw [List.mem_zipIdx_iff_getElem?]; simpa using hi, rfl⟩
 have hr := hO.rep (p := p) (w := w) (a := a) fun x hx => h x (hmem x hx)
 have hsz : zO s (l.map f) := zbZ hall
 have hpl' : ∀ d ∈ l.map f, d.plain = true := fun d hd => by
  obtain ⟨a, _, rfl⟩ := jq.1 hd
  exact hpl a
 have hl := hr.len
 have hlx : l.length = n := by rw [hn, ← jd (f := a.eval), hl, jd]
 obtain ⟨i, hii, hz', hsize, hby⟩ := info_parts hz
 have hpos : ¬ n * i.size = 0 := by
  rw [hsize]
  have := Nat.mul_pos hn0 hs0
  omega
 have hf : Instr.fill (fun j => some (j * i.size, i.size)) ((Array.range (n * i.size)).map (z.cells[· % z.cells.size]!)) ((parts.map fun (j, x) => (j, a.eval x)).toList) = some ((xs.map a.eval).flatMap fun v => v.cells.toList).toArray := by
  have e1 : (parts.map fun (j, x) => (j, a.eval x)).toList = ((xs.map a.eval).zipIdx 0).map fun x => (x.2, x.1) := by
   rw [Array.toList_map, hps, List.zipIdx_map, jJ, jJ]
   rfl
  rw [e1, hsize]
  have := qrW s (xs.map a.eval) 0 [] ((Array.range (n * s)).map (z.cells[· % z.cells.size]!)).toList (hr.szs hsz) og (by simp [hn])
  have e3 : ((Array.range (n * s)).map (z.cells[· % z.cells.size]!)).toList.toArray = (Array.range (n * s)).map (z.cells[· % z.cells.size]!) := by rw [Array.toArray_toList]
  rw [jp, jp, e3] at this
  exact this
 have hrun : (execOp a.eval o).run P w = .ok (.value (.slice (some ⟨w.heap.size, 0, none⟩) n n)) (w.alloc (.cells ((xs.map a.eval).flatMap fun v => v.cells.toList).toArray e)) := by
  unfold execOp
  rw [ho]
  simp [run_buildSlice w t e n _ _ i z hu hii hz' (by rw [hsize]; omega) hpos hf]
 have hrs := hr.reps
 have hlen : ((xs.map a.eval).flatMap fun v => v.cells.toList).length = n * s := by
  have := hrs.len
  rw [this, hsz.szs, jd, hlx]
 unfold Oper.wp
 rw [hrun]
 obtain ⟨p', q1, q2, q3⟩ := qs1 (K := K) (p := p) (σ := σ) (w := w) (cur := ((xs.map a.eval).flatMap fun v => v.cells.toList).toArray) (e := e) (s := s) (n := n) (cap := n) (l := l.map f) (xs := (xs.map a.eval).flatMap fun v => v.cells.toList) hi (by simpa using hlen) (by rw [← hlen]; exact vJ) hrs (hr.ones hpl') (by simpa using hlx) (jn _) (by
  have : n * 1 ≤ n * s := vx n hs0
  unfold maxLen; omega)
 exact ⟨_, _, _, p', rfl, ⟨_, rfl, by rw [hlx]⟩, q1, q2, q3⟩
end
section
variable {P : Program} {o : Oper} {ρ : Operand → Option D}
theorem qis {f : FuncId} {args : Array Operand} {ats : Array TypeId} {σ σ1 : St} (τ : St) {ds : List D} {d : D} (ho : o.op = .call { callee := .value (.func f), args := args, argTypes := ats }) (hf : callee P f) (hO : zal ρ args.toList ds) (hσ : σ.Perm (σ1 ++ τ)) (hS : Spec P f ds σ1 fun d' σ' => d' = d ∧ σ' = σ1) : zA P o ρ σ fun d' σ' => d' = d ∧ σ' = σ := fun K p a w hi h => by
 have h0 := qiL (P := P) (o := o) (ρ := ρ) τ ho hf hO hσ hS K p a w hi h
 refine Oper.wp_mono (fun a' w' hh => ?_) h0
 obtain ⟨v, d', σ', p', h1, ⟨σ1', ⟨rfl, rfl⟩, rfl⟩, h3, h4, h5⟩ := hh
 exact ⟨v, d', σ, p', h1, ⟨rfl, rfl⟩, h3, h4.perm hσ.symm, h5⟩
def zbN (a b : Int) : Option Int := if b = 0 then none else some (wr (Int.tdiv a b))
theorem qvi {t t' : TypeId} {x y : Operand} {m n r : Int} (ho : o.op = .binOp .quo t x y t') (hx : ρ x = some (.int .i64 m)) (hy : ρ y = some (.int .i64 n)) (hr : zbN m n = some r) : zE P o ρ (.int .i64 r) := by
 unfold zbN at hr
 split at hr
 cases hr
 rename_i hn
 rw [← Option.some.inj hr]
 exact qDp ho hx hy hn
end
inductive Pl where
 | nil
 | cons (i : Nat) (D : List (Nat × Cls)) (next sib : Pl)
def Pl.heads : Pl → List Nat
 | .nil => []
 | .cons i _ _ sb => i :: sb.heads
def Pl.alts : Pl → List (Nat × List (Nat × Cls) × Pl)
 | .nil => []
 | .cons i D nx sb => (i, D, nx) :: sb.alts
def Pl.first : Pl → List (Nat × Cls)
 | .nil => []
 | .cons i D nx _ => (i, .w) :: D ++ nx.first
def zaP (P : Program) (ops : Array Oper) (Q : Env → St → Prop) : Pl → Bool → Env → St → Prop
 | .nil, true => Q
 | .nil, false => fun _ _ => True
 | .cons i D nx sb, _ => fun e s => Run P ops NX (zaP P ops Q nx true) ((i, .w) :: D) e s ∧ zaP P ops Q sb false e s
section
variable {P : Program} {ops : Array Oper} {Q : Env → St → Prop}
theorem qzf {e : Env} {s : St} (h : Q e s) : zaP P ops Q .nil true e s := h
theorem p_no {e : Env} {s : St} : zaP P ops Q .nil false e s := trivial
theorem qye {i : Nat} {D : List (Nat × Cls)} {nx sb : Pl} {f : Bool} {e : Env} {s : St} (h : Run P ops NX (zaP P ops Q nx true) ((i, .w) :: D) e s) (h2 : zaP P ops Q sb false e s) : zaP P ops Q (.cons i D nx sb) f e s := ⟨h, h2⟩
theorem qvA {e : Env} {s : St} : ∀ {p : Pl} {f : Bool}, zaP P ops Q p f e s → ∀ x ∈ p.alts, Run P ops NX (zaP P ops Q x.2.2 true) ((x.1, .w) :: x.2.1) e s
 | .nil, _, _, x, hx => by cases hx
 | .cons i D nx sb, _, h, x, hx => by
  rcases jh.1 hx with rfl | hx
  exact h.1
  exact qvA h.2 x hx
def yh (ops : Array Oper) (M : Array Nat) : List (Nat × Cls) → Bool
 | [] => true
 | x :: l => (x.2.isW || l.all fun y => z4 ops M x y) && yh ops M l
def zbs (ops : Array Oper) (M : Array Nat) (ord : List (Nat × Cls)) (H : List Nat) : Bool := (List.range ops.size).all fun k => (ord.any fun x => x.1 == k) || ((H.any fun x => x == k) || ((List.range ops.size).any fun j => !(ord.any fun x => x.1 == j) && (M.getD k 0).testBit j))
def okP (ops : Array Oper) (M : Array Nat) : Pl → List (Nat × Cls) → List Nat → Bool → Bool
 | .nil, ord, _, f => !f || (zad ops.size ord && yh ops M ord)
 | .cons i D nx sb, ord, H, _ => zbs ops M ord H && (D.all fun x => !x.2.isW) && okP ops M nx (ord ++ (i, .w) :: D) nx.heads true && okP ops M sb ord H false
def zbt (ops : Array Oper) (pre : List (Nat × Cls)) (p : Pl) : Bool := za9 ops (zbx ops.size ((pre ++ p.first).map (·.1))) (yx ops ((pre ++ p.first).map (·.1))) && zbY ops (zbx ops.size ((pre ++ p.first).map (·.1))) && (pre.all fun x => !x.2.isW) && okP ops (yx ops ((pre ++ p.first).map (·.1))) p pre p.heads true
theorem qsQ {M : Array Nat} : ∀ {p : Pl} {ord : List (Nat × Cls)} {H : List Nat}, okP ops M p ord H true = true → ∃ ext, zad ops.size (ord ++ ext) = true ∧ yh ops M (ord ++ ext) = true ∧ ((∃ i D nx sb, p = .cons i D nx sb ∧ ∃ e', ext = (i, .w) :: e') ∨ (p = .nil ∧ ext = []))
 | .nil, ord, H, h => by
  simp only [okP, jy, vu, jm] at h
  exact ⟨[], by rw [jv]; exact h.1, by rw [jv]; exact h.2, .inr ⟨rfl, rfl⟩⟩
 | .cons i D nx sb, ord, H, h => by
  simp only [okP, jm] at h
  obtain ⟨ext, h1, h2, _⟩ := qsQ h.1.2
  rw [jk] at h1 h2
  exact ⟨_, h1, h2, .inl ⟨i, D, nx, sb, rfl, _, rfl⟩⟩
theorem quU {M : Array Nat} : ∀ {p : Pl} {ord : List (Nat × Cls)} {H : List Nat} {f : Bool}, okP ops M p ord H f = true → ∀ x ∈ p.alts, zbs ops M ord H = true ∧ (∀ y ∈ x.2.1, y.2.isW = false) ∧ okP ops M x.2.2 (ord ++ (x.1, .w) :: x.2.1) x.2.2.heads true = true
 | .nil, _, _, _, _, x, hx => by cases hx
 | .cons i D nx sb, ord, H, f, h, x, hx => by
  simp only [okP, jm] at h
  rcases jh.1 hx with rfl | hx
  exact ⟨h.1.1.1, fun y hy => by simpa using jB.1 h.1.1.2 y hy, h.1.2⟩
  exact quU h.2 x hx
theorem qtH : ∀ {p : Pl} {k : Nat}, k ∈ p.heads → ∃ x ∈ p.alts, x.1 = k
 | .nil, _, h => by cases h
 | .cons i D nx sb, k, h => by
  rcases jh.1 h with rfl | h
  exact ⟨_, jc .., rfl⟩
  obtain ⟨x, h1, h2⟩ := qtH h
  exact ⟨x, je _ h1, h2⟩
theorem qiB {M : Array Nat} : ∀ {l m : List (Nat × Cls)} {x y : Nat × Cls}, yh ops M (l ++ x :: m) = true → x.2.isW = false → y ∈ m → z4 ops M x y = true
 | [], m, x, y, h, hx, hy => by
  simp only [jp, yh, hx, vu, jm] at h
  exact jB.1 h.1 y hy
 | z :: l, m, x, y, h, hx, hy => by
  simp only [jC, yh, jm] at h
  exact qiB h.2 hx hy
theorem za1 {σ : St} {l : List (Nat × Cls)} {E : Env} (hq : ∀ x ∈ l, x.2.isW = false) (h : Run P ops NX Q l E σ) : ∃ new : List PE, l = new.map (fun e => (e.i, e.c)) ∧ Q (yg E new) σ ∧ (∀ d1 e d2, new = d1 ++ e :: d2 → e.E = yg E d1 ∧ ops[e.i]? = some e.o ∧ zaB P ops σ e ∧ e.c.isW = false) := by
 obtain ⟨new, l', h1, h2, h3, h4⟩ := zaZ (P := P) (Q := Q) E σ l E h
 rcases h4 with rfl | ⟨i, c, l'', rfl, hc⟩
 exact ⟨new, by rw [h1, jv], h2, h3⟩
 have := hq (i, c) (by rw [h1]; simp)
 rw [hc] at this
 cases this
structure MidP (P : Program) (ops : Array Oper) (Q : Env → St → Prop) (K : Ctx) (n : Nat) (m : Md) (M : Array Nat) (env0 : Env) (done : List PE) (p : Pl) (listed : Array Bool) (σ : St) (a : Act) (w : World) : Prop where
 ok : okP ops M p (done.map fun e => (e.i, e.c)) p.heads true = true
 chain : ∀ d1 e d2, done = d1 ++ e :: d2 → e.E = yg env0 d1 ∧ ops[e.i]? = some e.o ∧ (Tof listed e.i = false → zaB P ops σ e ∧ e.c.isW = false)
 rest : zaP P ops Q p true (yg env0 done) σ
 new : ∀ k, Tof listed k = true → ∃ e ∈ done, e.i = k
 down : Down ops listed
 size : listed.size = ops.size
 good : Good K n m (zI (Tof listed) env0 done) σ a w
end
section
variable {P : Program} {ops : Array Oper} {Q : Env → St → Prop}
theorem qz6 {n : Nat} {md : Md} {K : Ctx} {env0 : Env} {M r : Array Nat} (hok : yt ops n = true) (hM : za9 ops r M = true) (hL : zbY ops r = true) :
 ∀ (fuel : Nat) (pl : Pl) (done : List PE) (listed : Array Bool) (σ : St) (a : Act) (w : World), MidP P ops Q K n md M env0 done pl listed σ a w → yw ops.size listed = fuel →
  wpAnyIn (fw md.rd) 0 P .any ops (zba P K n md NX Q) fuel listed a w := by
 intro fuel
 induction fuel with
 | zero =>
  intro pl done listed σ a w m h0
  have hall : ∀ i, i < ops.size → Tof listed i = true := fun i hi => by
   cases hT : Tof listed i with
   | true => rfl
   | false =>
    have : (i, Cls.d) ∈ ((List.range ops.size).map fun i => (i, Cls.d)).filter fun x => !Tof listed x.1 := jR.2 ⟨jq.2 ⟨i, by simpa using hi, rfl⟩, by simp [hT]⟩
    have := vW this
    unfold yw left at h0
    omega
  refine ⟨?_, .inl ⟨rfl, ?_⟩⟩
  refine Jc.2 fun i hi => ?_
  obtain ⟨hun, o, ho, _⟩ := mem_ready.1 hi
  have hi' := (jD.1 ho).1
  have := hall i hi'
  unfold Tof at this
  have hs : i < listed.size := by rw [m.size]; exact hi'
  simp [hs] at this hun
  rw [this] at hun
  cases hun
  obtain ⟨ext, hI, _, hext⟩ := qsQ m.ok
  simp only [zad, jm, decide_eq_true_eq] at hI
  obtain ⟨⟨_, hI2⟩, hnd⟩ := hI
  have hpl : pl = .nil := by
   rcases hext with ⟨i, D, nx, sb, _, e', rfl⟩ | ⟨h, _⟩
   exfalso
   have hi : i < ops.size := by simpa using jB.1 hI2 (i, .w) og
   obtain ⟨e, he, hei⟩ := m.new i (hall i hi)
   rw [jM, jJ] at hnd
   exact (jH.1 hnd).2.2 e.i (jI he) i og hei
   exact h
  obtain ⟨p, g1, g2, g3, g4⟩ := m.good
  have hr := m.rest
  rw [hpl] at hr
  have he : zI (Tof listed) env0 done = yg env0 done := qg6 fun e he => by
   obtain ⟨d1, d2, hd⟩ := jS he
   exact hall e.i (jD.1 (m.chain d1 e d2 hd).2.1).1
  exact ⟨_, σ, p, hr, g1, he ▸ g2, g3, g4⟩
 | succ fuel ih =>
  intro pl done listed σ a w m h0
  obtain ⟨ext, hI, hP, hext⟩ := qsQ m.ok
  simp only [zad, jm, decide_eq_true_eq] at hI
  obtain ⟨⟨hI1, hI2⟩, hnd⟩ := hI
  obtain ⟨p, g1, g2, g3, g4⟩ := m.good
  have hmask := fun k o ho hall j hj => qp3 (ops := ops) hM m.down _ k o rfl ho hall j hj
  refine ⟨fun hnone => ?_, fun i hi => ?_⟩
  exfalso
  -- one that has not come up, the first of them
  have hex : ∃ i, i < ops.size ∧ Tof listed i = false := by
   have : 0 < yw ops.size listed := by omega
   unfold yw left at this
   obtain ⟨x, hx⟩ := List.exists_mem_of_length_pos this
   obtain ⟨hx1, hx2⟩ := jR.1 hx
   obtain ⟨y, hy, rfl⟩ := jq.1 hx1
   exact ⟨y, by simpa using hy, by simpa using hx2⟩
  obtain ⟨i, hi1, hi2⟩ := hex
  have : ∀ n k, r.getD k 0 = n → k < ops.size → Tof listed k = false → False := by
   intro n
   induction n using Nat.strongRecOn with
   | _ n ihk =>
    intro k hkn hk1 hk2
    have hr : k ∈ Region.ready .any ops listed := by
     refine mem_ready.2 ⟨?_, ops[k], vi hk1, fun e he hb => ?_⟩
     have hs : k < listed.size := by rw [m.size]; exact hk1
     unfold Tof at hk2
     simp [hs] at hk2 ⊢
     exact hk2
     cases hT : Tof listed e.on with
     | true => exact hT
     | false =>
      have hl := jB.1 hL k (by simpa using hk1)
      simp only [vi hk1] at hl
      have := (Array.all_eq_true_iff_forall_mem.1 hl) e he
      simp only [hb, jy, vu, decide_eq_true_eq] at this
      exact (ihk _ (by rw [← hkn]; exact this.1) e.on rfl this.2 hT).elim
    rw [hnone] at hr
    cases hr
  exact this _ i rfl hi1 hi2
  · obtain ⟨hun, o, ho, hdeps⟩ := mem_ready.1 hi
    have hi' := (jD.1 ho).1
    have hs : i < listed.size := by rw [m.size]; exact hi'
    have hT : Tof listed i = false := by
     unfold Tof
     simp [hs] at hun ⊢
     exact hun
    have hdown : Down ops (listed.setIfInBounds i true) := fun k o' ho' hk e he hb => by
     rw [qeo hs] at hk ⊢
     split
     · rfl
     · by_cases hki : k = i
       · subst hki
         rw [ho] at ho'
         injection ho' with ho'
         subst ho'
         exact hdeps e he hb
       · rw [if_neg hki] at hk
         exact m.down k o' ho' hk e he hb
    have hleft := qv0 (ord := (List.range ops.size).map fun i => (i, Cls.d)) (c := Cls.d) (by rw [jJ]; have : (vp ∘ fun i : Nat => (i, Cls.d)) = id := rfl; rw [this, List.map_id]; exact List.nodup_range) (jq.2 ⟨i, by simpa using hi', rfl⟩) hs hT
    -- who must have come up, who cannot have
    have before : ∀ x y : Nat × Cls, x.1 < ops.size → z4 ops M x y = true → y.1 = i → Tof listed x.1 = false → x.2.isW = false ∧ ¬(x.2 = .r ∧ y.2.isW = true) ∧ yj ops x.1 y.1 = true := fun x y hx hp hy hf => qkU hp (by
     cases hb : (M.getD y.1 0).testBit x.1 with
     | false => rfl
     | true =>
      rw [hy] at hb
      rw [hmask i o ho hdeps x.1 hx hb] at hf
      cases hf)
    have behind : ∀ x y : Nat × Cls, y.1 < ops.size → z4 ops M x y = true → x.1 = i → Tof listed y.1 = true → x.2.isW = false ∧ ¬(x.2 = .r ∧ y.2.isW = true) ∧ yj ops x.1 y.1 = true := fun x y hy hp hx ht => qkU hp (by
     cases hb : (M.getD y.1 0).testBit x.1 with
     | false => rfl
     | true =>
      have h1 := hmask y.1 _ (vi hy) (m.down y.1 _ (vi hy) ht) x.1 (by rw [hx]; exact hi') hb
      rw [hx, hT] at h1
      cases h1)
    have apartL : ∀ {j k : Nat} {x y : Oper}, yj ops j k = true → ops[j]? = some x → ops[k]? = some y → x.apart ops y = true := fun {j k x y} h hx hy => by
     unfold yj at h
     rw [hx, hy] at h
     exact h
    by_cases hin : ∃ e ∈ done, e.i = i
    · -- it is pending
      obtain ⟨e, he, hec⟩ := hin
      obtain ⟨d1, d2, hsplit⟩ := jS he
      obtain rfl : e.i = i := hec
      obtain ⟨hE, heo, hpend⟩ := m.chain d1 e d2 hsplit
      obtain ⟨hp, hcw⟩ := hpend hT
      have heq : e.o = o := by rw [heo] at ho; injection ho
      have hunl : ∀ x ∈ done, Tof listed x.i = false → x.c.isW = false := fun x hx hf => by
       obtain ⟨u1, u2, hu⟩ := jS hx
       exact ((m.chain u1 x u2 hu).2.2 hf).2
      have hpair1 : ∀ x ∈ d1, Tof listed x.i = false → z4 ops M (x.i, x.c) (e.i, e.c) = true := fun x hx hf => by
       obtain ⟨u1, u2, hu⟩ := jS hx
       have : yh ops M ((u1.map fun e => (e.i, e.c)) ++ (x.i, x.c) :: ((u2.map fun e => (e.i, e.c)) ++ (e.i, e.c) :: ((d2.map fun e => (e.i, e.c)) ++ ext))) = true := by
        rw [← hP, hsplit, hu]; simp
       exact qiB this (hunl x (by rw [hsplit]; exact jo _ hx) hf) og
      have hpair2 : ∀ x ∈ d2, z4 ops M (e.i, e.c) (x.i, x.c) = true := fun x hx => by
       have : yh ops M ((d1.map fun e => (e.i, e.c)) ++ (e.i, e.c) :: ((d2.map fun e => (e.i, e.c)) ++ ext)) = true := by
        rw [← hP, hsplit]; simp
       exact qiB this hcw (jo _ (jI hx))
      have hmemlt : ∀ x ∈ done, x.i < ops.size ∧ ops[x.i]? = some x.o := fun x hx => by
       obtain ⟨u1, u2, hu⟩ := jS hx
       have := (m.chain u1 x u2 hu).2.1
       exact ⟨(jD.1 this).1, this⟩
      have hin1 : ∀ x ∈ d1, x ∈ done := fun x hx => by rw [hsplit]; exact jo _ hx
      have hin2 : ∀ x ∈ d2, x ∈ done := fun x hx => by rw [hsplit]; exact jt _ (je _ hx)
      have hlook : ∀ t ∈ o.looksAt ops, lk (zI (Tof listed) env0 done) t = lk e.E t := fun t ht => by
       rw [hsplit, qj3]
       have hcons : zI (Tof listed) (zI (Tof listed) env0 d1) (e :: d2) = zI (Tof listed) (zI (Tof listed) env0 d1) d2 := by simp [zI, hT]
       rw [hcons, qjC, hE]
       · refine qm3 (fun x hx hd => ?_) rfl
         cases hf : Tof listed x.i with
         | true => rfl
         | false =>
          have := (before (x.i, x.c) (e.i, e.c) (hmemlt x (hin1 x hx)).1 (hpair1 x hx hf) rfl hf).2.2
          have h5 := apartL this (hmemlt x (hin1 x hx)).2 ho
          exact absurd ht ((Oper.apart_spec h5).1 t hd)
       · intro x hx hf hd
         have := (behind (e.i, e.c) (x.i, x.c) (hmemlt x (hin2 x hx)).1 (hpair2 x hx) rfl hf).2.2
         have h5 := apartL this ho (hmemlt x (hin2 x hx)).2
         exact (Oper.apart_spec h5).2.2 t hd ht
      have hrep : ∀ t ∈ o.looksAt ops, ∀ d, lk e.E t = some d → Rep p w d (a.tmps.getD t Go.undef) := fun t ht d hd => g2 t d (by rw [hlook t ht]; exact hd)
      have hput : ∀ t, lk (zI (Tof (listed.setIfInBounds e.i true)) env0 done) t = lk ((zI (Tof listed) env0 done).put o.dst e.V) t := fun t => by
       have hne1 : ∀ x ∈ d1, x.i ≠ e.i := fun x hx hxe => by
        rw [hsplit] at hnd
        simp only [jM, jr, jJ] at hnd
        have := jH.1 (jH.1 hnd).1
        exact this.2.2 _ (jI hx) _ (jc ..) hxe
       have hne2 : ∀ x ∈ d2, x.i ≠ e.i := fun x hx hxe => by
        rw [hsplit] at hnd
        simp only [jM, jr, jJ] at hnd
        have := (jH.1 (jH.1 hnd).1).2.1
        simp only [jQ] at this
        exact this.1 (jq.2 ⟨x, hx, hxe⟩)
       have e1 : zI (Tof (listed.setIfInBounds e.i true)) env0 done = zI (Tof listed) ((zI (Tof listed) env0 d1).put o.dst e.V) d2 := by
        rw [hsplit, qj3, qg6 (T := Tof (listed.setIfInBounds e.i true)) (T' := Tof listed) (l := d1) fun x hx => by rw [qeo hs, if_neg (hne1 x hx)]]
        have : zI (Tof (listed.setIfInBounds e.i true)) (zI (Tof listed) env0 d1) (e :: d2) = zI (Tof (listed.setIfInBounds e.i true)) ((zI (Tof listed) env0 d1).put o.dst e.V) d2 := by
         simp [zI, qeo hs, heq]
        rw [this]
        exact qg6 fun x hx => by rw [qeo hs, if_neg (hne2 x hx)]
       have e2 : zI (Tof listed) env0 done = zI (Tof listed) (zI (Tof listed) env0 d1) d2 := by
        rw [hsplit, qj3]; simp [zI, hT]
       rw [e1, e2, qg3]
       by_cases hd : o.dst = some t
       · rw [if_pos hd, qjC, qg3, if_pos hd]
         intro x hx hf hxd
         have := (behind (e.i, e.c) (x.i, x.c) (hmemlt x (hin2 x hx)).1 (hpair2 x hx) rfl hf).2.2
         have h5 := apartL this ho (hmemlt x (hin2 x hx)).2
         exact (Oper.apart_spec h5).2.1 t hd hxd
       · rw [if_neg hd]
         have gen : ∀ (m : List PE) (A B : Env), lk A t = lk B t → lk (zI (Tof listed) A m) t = lk (zI (Tof listed) B m) t := by
          intro m
          induction m with
          | nil => exact fun A B h => h
          | cons x m ihm =>
           intro A B h
           simp only [zI, vh]
           refine ihm _ _ ?_
           split
           · simp only [qg3]; split <;> simp [h]
           · exact h
         exact gen d2 _ _ (by rw [qg3, if_neg hd])
      have next : ∀ (a' : Act) (w' : World) (p' : Addr → Prop) (v : Value), a' = a.put o.dst v → Rep p' w' e.V v → Inv K p' σ w' → zT p w p' w' → MidP P ops Q K n md M env0 done pl (listed.setIfInBounds e.i true) σ a' w' := fun a' w' p' v ha' hv hi2 hg => by
       refine ⟨m.ok, fun u1 x u2 hu => ?_, m.rest, fun k hk => ?_, hdown, by simpa using m.size, ⟨p', hi2, fun t d ht => ?_, ?_, ?_⟩⟩
       · obtain ⟨q1, q2, q3⟩ := m.chain u1 x u2 hu
         refine ⟨q1, q2, fun hf => q3 ?_⟩
         rw [qeo hs] at hf
         split at hf
         · cases hf
         · exact hf
       · rw [qeo hs] at hk
         split at hk
         · rename_i hke
           exact ⟨e, he, hke.symm⟩
         · exact m.new k hk
       · rw [hput t] at ht
         have hr' := (g2.grow hg).put (dst := o.dst) hv fun t ht => vg (qkJ hok ho t ht) g3
         rw [ha']
         exact hr' t d ht
       · rw [ha', qmB]; exact g3
       · rw [ha', qgJ]; exact g4
      unfold wpOpIn
      simp only [ho]
      have hlf : yw ops.size (listed.setIfInBounds e.i true) = fuel := by unfold yw at h0 ⊢; omega
      rcases hp with ⟨hw, hV⟩ | ⟨hw, hp⟩
      · rw [heq] at hw
        rw [qfG hrep hw]
        simp only [jO, if_false]
        exact ⟨fun f _ => qq1 _ f, ih _ _ _ _ _ _ (next _ w p Go.undef rfl (by rw [hV]; simp only [Rep]) g1 (zT.refl p w)) hlf⟩
      · rw [heq] at hw
        rw [qfG hrep hw]
        simp only [if_true]
        have hst : zA P o (ev e.E) σ fun d' σ' => d' = e.V ∧ σ' = σ := by
         rw [← heq]
         rcases hp with ⟨_, hp⟩ | ⟨_, hp⟩
         · exact hp σ
         · exact hp
        refine qlN (fun a' w' hh => ?_) (fun _ _ _ hh => hh.elim) (hst.y md.rd K p a w g1 (qmT hok ho hrep))
        obtain ⟨v, d, σ', p', ha', ⟨rfl, rfl⟩, hv, hi2, hg⟩ := hh
        exact ih _ _ _ _ _ _ (next a' w' p' v ha' hv hi2 hg) hlf
    · -- it is the next one of our plan
      obtain ⟨x, hx, hxi⟩ : ∃ x ∈ pl.alts, x.1 = i := by
       have hno : ∀ j, j < ops.size → (∀ e ∈ done, e.i ≠ j) → (done.map fun e => (e.i, e.c)).any (fun x => x.1 == j) = false := fun j _ hj => by
        rw [List.any_eq_false]
        intro y hy
        obtain ⟨e, he, rfl⟩ := jq.1 hy
        simpa using hj e he
       have hni : ∀ e ∈ done, e.i ≠ i := fun e he hei => hin ⟨e, he, hei⟩
       rcases hext with ⟨i0, D0, nx0, sb0, rfl, _⟩ | ⟨_, rfl⟩
       · have hcov := (quU m.ok (i0, D0, nx0) (jc ..)).1
         have h1 := jB.1 hcov i (by simpa using hi')
         rw [hno i hi' hni, vu, Bool.or_eq_true] at h1
         rcases h1 with h1 | h1
         · obtain ⟨k, hk, hki⟩ := vw.1 h1
           obtain rfl : k = i := beq_iff_eq.1 hki
           exact qtH hk
         · exfalso
           obtain ⟨j, hj, hb⟩ := vw.1 h1
           have hj : j < ops.size := by simpa using hj
           rw [jm, vV] at hb
           obtain ⟨e, he, hej⟩ := m.new j (hmask i o ho hdeps j hj hb.2)
           have := List.any_eq_false.1 hb.1 (e.i, e.c) (jI he)
           simp [hej] at this
       · exfalso
         obtain ⟨y, hy, hyi⟩ := vw.1 (jB.1 hI1 i (by simpa using hi'))
         rw [jv] at hy
         obtain ⟨e, he, rfl⟩ := jq.1 hy
         exact hni e he (beq_iff_eq.1 hyi)
      obtain ⟨i0, Dq, nx⟩ := x
      simp only at hxi
      subst hxi
      obtain ⟨_, hDq, hokn⟩ := quU m.ok _ hx
      simp only at hDq hokn
      have hrun := qvA m.rest _ hx
      simp only at hrun
      clear hP hI1 hI2 hnd hext
      obtain ⟨ext, hI, hP, _⟩ := qsQ hokn
      simp only [zad, jm, decide_eq_true_eq] at hI
      obtain ⟨⟨hI1, hI2⟩, hnd⟩ := hI
      have hunl : ∀ x ∈ done, Tof listed x.i = false → x.c.isW = false := fun x hx hf => by
       obtain ⟨u1, u2, hu⟩ := jS hx
       exact ((m.chain u1 x u2 hu).2.2 hf).2
      have hpair : ∀ x ∈ done, Tof listed x.i = false → z4 ops M (x.i, x.c) (i0, .w) = true := fun x hx hf => by
       obtain ⟨u1, u2, hu⟩ := jS hx
       have : yh ops M ((u1.map fun e => (e.i, e.c)) ++ (x.i, x.c) :: ((u2.map fun e => (e.i, e.c)) ++ (i0, .w) :: (Dq ++ ext))) = true := by
        rw [← hP, hu]; simp
       exact qiB this (hunl x hx hf) og
      have hmemlt : ∀ x ∈ done, x.i < ops.size ∧ ops[x.i]? = some x.o := fun x hx => by
       obtain ⟨u1, u2, hu⟩ := jS hx
       have := (m.chain u1 x u2 hu).2.1
       exact ⟨(jD.1 this).1, this⟩
      have hne : ∀ x ∈ done, x.i ≠ i0 := fun x hx hxe => hin ⟨x, hx, hxe⟩
      have hlook : ∀ t ∈ o.looksAt ops, lk (zI (Tof listed) env0 done) t = lk (yg env0 done) t := fun t ht =>
       qm3 (fun x hx hd => by
        cases hf : Tof listed x.i with
        | true => rfl
        | false =>
         have := (before (x.i, x.c) (i0, .w) (hmemlt x hx).1 (hpair x hx hf) rfl hf).2.2
         have h5 := apartL this (hmemlt x hx).2 ho
         exact absurd ht ((Oper.apart_spec h5).1 t hd)) rfl
      have hrep : ∀ t ∈ o.looksAt ops, ∀ d, lk (yg env0 done) t = some d → Rep p w d (a.tmps.getD t Go.undef) := fun t ht d hd => g2 t d (by rw [hlook t ht]; exact hd)
      have next : ∀ (a' : Act) (w' : World) (p' : Addr → Prop) (v : Value) (V : D) (σ' : St), a' = a.put o.dst v → Rep p' w' V v → Inv K p' σ' w' → zT p w p' w' → Run P ops NX (zaP P ops Q nx true) Dq ((yg env0 done).put o.dst V) σ' →
       ∃ done', MidP P ops Q K n md M env0 done' nx (listed.setIfInBounds i0 true) σ' a' w' := fun a' w' p' v V σ' ha' hv hi2 hg hrun => by
       obtain ⟨new, h1, h2, h3⟩ := za1 hDq hrun
       have heA : yg env0 (done ++ [⟨i0, .w, o, yg env0 done, V⟩]) = (yg env0 done).put o.dst V := by simp [zI]
       have hnd' : (done.map (fun e => e.i) ++ i0 :: (new.map (fun e => e.i) ++ ext.map (·.1))).Nodup := by
        have := hnd
        rw [h1] at this
        simpa [jJ, Function.comp_def] using this
       have hnd2 := jH.1 hnd'
       have hnd3 := jQ.1 hnd2.2.1
       have hnewf : ∀ x ∈ new, Tof (listed.setIfInBounds i0 true) x.i = false := fun x hx => by
        have hxi : x.i ≠ i0 := fun e => hnd3.1 (by rw [← e]; exact jo _ (jI hx))
        rw [qeo hs, if_neg hxi]
        cases hT2 : Tof listed x.i with
        | false => rfl
        | true =>
         obtain ⟨e, he, hei⟩ := m.new x.i hT2
         exact absurd hei (hnd2.2.2 e.i (jI he) x.i (je _ (jo _ (jI hx))))
       refine ⟨done ++ ⟨i0, .w, o, yg env0 done, V⟩ :: new, ⟨by have := hokn; rw [h1] at this; simpa using this, fun u1 x u2 hu => ?_, ?_, fun k hk => ?_, hdown, by simpa using m.size, ⟨p', hi2, fun t d ht => ?_, ?_, ?_⟩⟩⟩
       · -- the chain
         rcases List.append_eq_append_iff.1 hu with ⟨v1, hv1, hv2⟩ | ⟨v1, hv1, hv2⟩
         · cases v1 with
           | nil =>
            simp only [jp, List.cons.injEq] at hv2
            obtain ⟨rfl, rfl⟩ := hv2
            simp only [jv] at hv1
            subst hv1
            exact ⟨rfl, ho, fun hf => by rw [qeo hs, if_pos rfl] at hf; cases hf⟩
           | cons y v1 =>
            simp only [jC, List.cons.injEq] at hv2
            obtain ⟨rfl, hv2⟩ := hv2
            obtain ⟨q1, q2, q3, q4⟩ := h3 v1 x u2 hv2
            refine ⟨?_, q2, fun _ => ⟨q3, q4⟩⟩
            rw [q1, hv1]
            simp [zI]
         · cases v1 with
           | nil =>
            simp only [jp, List.cons.injEq] at hv2
            obtain ⟨rfl, rfl⟩ := hv2
            simp only [jv] at hv1
            subst hv1
            exact ⟨rfl, ho, fun hf => by rw [qeo hs, if_pos rfl] at hf; cases hf⟩
           | cons y v1 =>
            simp only [jC, List.cons.injEq] at hv2
            obtain ⟨rfl, hv2⟩ := hv2
            have hxin : x ∈ done := by rw [hv1]; simp
            obtain ⟨q1, q2, q3⟩ := m.chain u1 x v1 hv1
            refine ⟨q1, q2, fun hf => ?_⟩
            rw [qeo hs, if_neg (hne x hxin)] at hf
            obtain ⟨q4, q5⟩ := q3 hf
            refine ⟨?_, q5⟩
            have hnr := (before (x.i, x.c) (i0, .w) (hmemlt x hxin).1 (hpair x hxin hf) rfl hf).2.1
            rcases q4 with q4 | ⟨q4, q6⟩
            · exact .inl q4
            · refine .inr ⟨q4, ?_⟩
              rcases q6 with q6 | ⟨q6, _⟩
              · exact .inl q6
              · exact absurd ⟨q6, rfl⟩ hnr
       · have hee : yg env0 (done ++ (⟨i0, .w, o, yg env0 done, V⟩ : PE) :: new) = yg ((yg env0 done).put o.dst V) new := by
          rw [← heA]
          simp [zI]
         rw [hee]
         exact h2
       · rw [qeo hs] at hk
         split at hk
         · rename_i hke
           exact ⟨⟨i0, .w, o, yg env0 done, V⟩, by simp, hke.symm⟩
         · obtain ⟨e, he, hek⟩ := m.new k hk
           exact ⟨e, jo _ he, hek⟩
       · have hT' : ∀ x ∈ done, Tof (listed.setIfInBounds i0 true) x.i = Tof listed x.i := fun x hx => by rw [qeo hs, if_neg (hne x hx)]
         rw [qj3, qg6 hT'] at ht
         have hcons : zI (Tof (listed.setIfInBounds i0 true)) (zI (Tof listed) env0 done) (⟨i0, .w, o, yg env0 done, V⟩ :: new) = zI (Tof (listed.setIfInBounds i0 true)) ((zI (Tof listed) env0 done).put o.dst V) new := by simp [zI, qeo hs]
         rw [hcons, qjC (fun x hx hf => by rw [hnewf x hx] at hf; cases hf)] at ht
         have hr' := (g2.grow hg).put (dst := o.dst) hv fun t ht => vg (qkJ hok ho t ht) g3
         rw [ha']
         exact hr' t d ht
       · rw [ha', qmB]; exact g3
       · rw [ha', qgJ]; exact g4
      have hlf : yw ops.size (listed.setIfInBounds i0 true) = fuel := by unfold yw at h0 ⊢; omega
      unfold wpOpIn
      simp only [ho]
      obtain ⟨o', ho', hrun⟩ := hrun
      obtain rfl : o' = o := by rw [ho] at ho'; injection ho' with h; exact h.symm
      have hrun : (yJ ops (yg env0 done) o' = some false ∧ Run P ops NX (zaP P ops Q nx true) Dq ((yg env0 done).put o'.dst .undef) σ) ∨ (yJ ops (yg env0 done) o' = some true ∧ ∃ R, zaF P o' (ev (yg env0 done)) σ R ∧ ∀ d σ', R d σ' → Run P ops NX (zaP P ops Q nx true) Dq ((yg env0 done).put o'.dst d) σ') := by
       rcases hrun with hrun | hrun | ⟨_, _, _, _, _, hx, _⟩
       · exact .inl hrun
       · exact .inr hrun
       · exact hx.elim
      rcases hrun with ⟨hw, hk⟩ | ⟨hw, R, hst, hk⟩
      · rw [qfG hrep hw]
        simp only [jO, if_false]
        obtain ⟨done', hm⟩ := next _ w p Go.undef .undef σ rfl (by simp only [Rep]) g1 (zT.refl p w) hk
        exact ⟨fun f _ => qq1 _ f, ih _ _ _ _ _ _ hm hlf⟩
      · rw [qfG hrep hw]
        simp only [if_true]
        refine qlN (fun a' w' hh => ?_) (fun _ _ _ hh => hh.elim) (hst md.rd K p a w g1 (qmT hok ho hrep))
        obtain ⟨v, d, σ', p', ha', hR, hv, hi2, hg⟩ := hh
        obtain ⟨done', hm⟩ := next a' w' p' v d σ' ha' hv hi2 hg (hk d σ' hR)
        exact ih _ _ _ _ _ _ hm hlf
theorem qCj {n : Nat} {md : Md} {K : Ctx} {env : Env} {σ : St} (hok : yt ops n = true) (pre : List (Nat × Cls)) (pl : Pl) (hA : zbt ops pre pl = true) (h : Run P ops NX (zaP P ops Q pl true) pre env σ)
 {p : Addr → Prop} {a : Act} {w : World} (hi : Inv K p σ w) (hr : zL p w env a) (hn : n ≤ a.tmps.size) (hd : a.defers = md.marks) :
 wpAnyIn (fw md.rd) 0 P .any ops (zba P K n md NX Q) ops.size (Array.replicate ops.size false) a w := by
 simp only [zbt, jm] at hA
 obtain ⟨⟨⟨hM, hL⟩, hq⟩, hP⟩ := hA
 obtain ⟨new, h1, h2, h3⟩ := za1 (fun x hx => by simpa using jB.1 hq x hx) h
 have h0 : ∀ i, Tof (Array.replicate ops.size false) i = false := fun i => by
  unfold Tof
  rw [Array.getD_eq_getD_getElem?, Array.getElem?_replicate]
  split <;> rfl
 have hfuel : yw ops.size (Array.replicate ops.size false) = ops.size := by
  unfold yw left
  rw [List.filter_eq_self.2 fun x _ => by rw [h0]; rfl]
  simp
 refine qz6 (P := P) (Q := Q) (K := K) (n := n) hok hM hL _ pl new _ σ a w ⟨by rw [← h1]; exact hP, fun d1 e d2 hh => ?_, h2, fun k hk => ?_, fun k' o _ hk => ?_, by simp, ⟨p, hi, ?_, hn, hd⟩⟩ hfuel
 · obtain ⟨q1, q2, q3, q4⟩ := h3 d1 e d2 hh
   exact ⟨q1, q2, fun _ => ⟨q3, q4⟩⟩
 · rw [h0] at hk; cases hk
 · rw [h0] at hk; cases hk
 · have : zI (Tof (Array.replicate ops.size false)) env new = env := by
    have : ∀ (m : List PE), zI (Tof (Array.replicate ops.size false)) env m = env := by
     intro m
     induction m with
     | nil => rfl
     | cons x m ih => simp only [zI, vh, h0, jO, if_false] at ih ⊢; exact ih
    exact this new
   rw [this]
   exact hr
theorem qtm {m : Md} {f : FuncId} {fn : Func} {K : Ctx} {R : D → St → Prop} {k : List Item} {env : Env} {σ : St} {id : Nat} {l : List Oper} (hm : P.follows .mixedOrders = true) (hok : yt l.toArray fn.ntmps = true) (pre : List (Nat × Cls)) (pl : Pl) (hA : zbt l.toArray pre pl = true) (J : Env → St → Prop)
 (h : Run P l.toArray NX (zaP P l.toArray J pl true) pre env σ) (hJ : ∀ e s, J e s → zj m P f fn K R k e s) : zj m P f fn K R (.code (.region id l.toArray true) :: k) env σ :=
 qnw (Q := J) (X := NX) (fun p a w hi hr hn hd => wpIn_region_any hm (qCj (md := m) (P := P) (Q := J) (K := K) (n := fn.ntmps) hok pre pl hA h hi.drew (hr.grow (qjN p w)) hn hd)) (fun _ _ _ h => h.elim) hJ
end
theorem qjV : Ty Tryz.prog 251 false 1 := ⟨⟨_, Tryz.underlying251, rfl⟩, by kernel_rfl⟩
theorem qhm : Ty Tryz.prog 252 false 1 := ⟨⟨_, Tryz.underlying252, rfl⟩, by kernel_rfl⟩
theorem qfV : ElT Tryz.prog 252 259 4 56 := .of Tryz.underlying252 ob od
theorem qkZ : Ty Tryz.prog 254 true 2 := ⟨⟨_, Tryz.underlying254, rfl⟩, by kernel_rfl⟩
theorem qm : Fld Tryz.prog 254 0 0 := ⟨_, _, 1, Tryz.underlying254, rfl, rfl, by kernel_rfl, by decide⟩
theorem qV : Fld Tryz.prog 254 1 1 := ⟨_, _, 1, Tryz.underlying254, rfl, rfl, by kernel_rfl, by decide⟩
theorem qjd : Ty Tryz.prog 255 false 1 := ⟨⟨_, Tryz.underlying255, rfl⟩, by kernel_rfl⟩
theorem qdF : ElT Tryz.prog 255 261 2 16 := .of Tryz.underlying255 ob od
theorem qlE : Ty Tryz.prog 259 true 4 := ⟨⟨_, Tryz.underlying259, rfl⟩, by kernel_rfl⟩
theorem qkt : Fld Tryz.prog 259 0 0 := ⟨_, _, 1, Tryz.underlying259, rfl, rfl, by kernel_rfl, by decide⟩
theorem qkx : Fld Tryz.prog 259 1 1 := ⟨_, _, 1, Tryz.underlying259, rfl, rfl, by kernel_rfl, by decide⟩
theorem qkn : Fld Tryz.prog 259 2 2 := ⟨_, _, 1, Tryz.underlying259, rfl, rfl, by kernel_rfl, by decide⟩
theorem qeW : Fld Tryz.prog 259 3 3 := ⟨_, _, 1, Tryz.underlying259, rfl, rfl, by kernel_rfl, by decide⟩
theorem qlp : zQ Tryz.prog 259 [.int .i64 0, .int .i64 0, .str ⟨#[]⟩, .lst []] := .mk rfl ob Tryz.underlying259 ob
theorem qic : z7 Tryz.prog 259 (.agg [.int .i64 0, .int .i64 0, .str ⟨#[]⟩, .lst []]) := .agg qlp
theorem qeQ : Ty Tryz.prog 261 true 2 := ⟨⟨_, Tryz.underlying261, rfl⟩, by kernel_rfl⟩
theorem qcZ : Fld Tryz.prog 261 0 0 := ⟨_, _, 1, Tryz.underlying261, rfl, rfl, by kernel_rfl, by decide⟩
theorem qdC : Fld Tryz.prog 261 1 1 := ⟨_, _, 1, Tryz.underlying261, rfl, rfl, by kernel_rfl, by decide⟩
theorem qhb : zQ Tryz.prog 261 [.int .i64 0, .int .i64 0] := .mk rfl ob Tryz.underlying261 ob
theorem qfA : z7 Tryz.prog 261 (.agg [.int .i64 0, .int .i64 0]) := .agg qhb
theorem qlM : callee Tryz.prog 144 := ⟨_, _, Tryz.func144, rfl, by decide⟩
theorem qlu : callee Tryz.prog 169 := ⟨_, _, Tryz.func169, rfl, by decide⟩
theorem qfZ : callee Tryz.prog 146 := ⟨_, _, Tryz.func146, rfl, by decide⟩
theorem qhM : callee Tryz.prog 166 := ⟨_, _, Tryz.func166, rfl, by decide⟩
theorem qhl : callee Tryz.prog 167 := ⟨_, _, Tryz.func167, rfl, by decide⟩
theorem qbD : callee Tryz.prog 181 := ⟨_, _, Tryz.func181, rfl, by decide⟩
theorem qfT : callee Tryz.prog 182 := ⟨_, _, Tryz.func182, rfl, by decide⟩
theorem qkl : callee Tryz.prog 183 := ⟨_, _, Tryz.func183, rfl, by decide⟩
theorem qgE : callee Tryz.prog 185 := ⟨_, _, Tryz.func185, rfl, by decide⟩
theorem qgD : callee Tryz.prog 170 := ⟨_, _, Tryz.func170, rfl, by decide⟩
theorem qlA : callee Tryz.prog 179 := ⟨_, _, Tryz.func179, rfl, by decide⟩
theorem qeP : callee Tryz.prog 194 := ⟨_, _, Tryz.func194, rfl, by decide⟩
theorem qeK : callee Tryz.prog 164 := ⟨_, _, Tryz.func164, rfl, by decide⟩
theorem qk6 : callee Tryz.prog 196 := ⟨_, _, Tryz.func196, rfl, by decide⟩
theorem qjF : callee Tryz.prog 186 := ⟨_, _, Tryz.func186, rfl, by decide⟩
theorem qhu : callee Tryz.prog 191 := ⟨_, _, Tryz.func191, rfl, by decide⟩
theorem qki : callee Tryz.prog 192 := ⟨_, _, Tryz.func192, rfl, by decide⟩
theorem qdg : callee Tryz.prog 176 := ⟨_, _, Tryz.func176, rfl, by decide⟩
theorem qgZ : callee Tryz.prog 177 := ⟨_, _, Tryz.func177, rfl, by decide⟩
theorem qk2 : callee Tryz.prog 178 := ⟨_, _, Tryz.func178, rfl, by decide⟩
theorem qio : callee Tryz.prog 175 := ⟨_, _, Tryz.func175, rfl, by decide⟩
theorem qkh : callee Tryz.prog 197 := ⟨_, _, Tryz.func197, rfl, by decide⟩
theorem qk9 : callee Tryz.prog 190 := ⟨_, _, Tryz.func190, rfl, by decide⟩
theorem qkE : callee Tryz.prog 189 := ⟨_, _, Tryz.func189, rfl, by decide⟩
theorem qd4 : callee Tryz.prog 199 := ⟨_, _, Tryz.func199, rfl, by decide⟩
theorem qgb : callee Tryz.prog 200 := ⟨_, _, Tryz.func200, rfl, by decide⟩
theorem qhT : callee Tryz.prog 201 := ⟨_, _, Tryz.func201, rfl, by decide⟩
theorem qc7 : callee Tryz.prog 202 := ⟨_, _, Tryz.func202, rfl, by decide⟩
theorem qf1 : callee Tryz.prog 203 := ⟨_, _, Tryz.func203, rfl, by decide⟩
theorem qdf : callee Tryz.prog 204 := ⟨_, _, Tryz.func204, rfl, by decide⟩
theorem qnn : Ty Tryz.prog 38 false 1 := ⟨⟨_, Tryz.underlying38, rfl⟩, by kernel_rfl⟩
theorem qeY : ElT Tryz.prog 38 168 2 32 := .of Tryz.underlying38 ob od
theorem qxh : Ty Tryz.prog 200 false 1 := ⟨⟨_, Tryz.underlying200, rfl⟩, by kernel_rfl⟩
theorem qjf : ElT Tryz.prog 200 60 1 24 := .of Tryz.underlying200 ob od
theorem quW : Ty Tryz.prog 168 true 2 := ⟨⟨_, Tryz.underlying168, rfl⟩, by kernel_rfl⟩
theorem qsq : Fld Tryz.prog 168 0 0 := ⟨_, _, 1, Tryz.underlying168, rfl, rfl, by kernel_rfl, by decide⟩
theorem qrU : Fld Tryz.prog 168 1 1 := ⟨_, _, 1, Tryz.underlying168, rfl, rfl, by kernel_rfl, by decide⟩
theorem qpZ : zQ Tryz.prog 168 [.int .i64 0, .lst []] := .mk rfl ob Tryz.underlying168 ob
theorem qkb : callee Tryz.prog 69 := ⟨_, _, Tryz.func69, rfl, by decide⟩
theorem qkP : callee Tryz.prog 71 := ⟨_, _, Tryz.func71, rfl, by decide⟩
theorem qlf : callee Tryz.prog 72 := ⟨_, _, Tryz.func72, rfl, by decide⟩
theorem qjO : callee Tryz.prog 137 := ⟨_, _, Tryz.func137, rfl, by decide⟩
theorem qhy : callee Tryz.prog 104 := ⟨_, _, Tryz.func104, rfl, by decide⟩
theorem qgs : callee Tryz.prog 105 := ⟨_, _, Tryz.func105, rfl, by decide⟩
theorem qe5 : callee Tryz.prog 107 := ⟨_, _, Tryz.func107, rfl, by decide⟩
theorem qig : callee Tryz.prog 116 := ⟨_, _, Tryz.func116, rfl, by decide⟩
theorem qkG : callee Tryz.prog 112 := ⟨_, _, Tryz.func112, rfl, by decide⟩
theorem qjQ : callee Tryz.prog 117 := ⟨_, _, Tryz.func117, rfl, by decide⟩
theorem qhN : callee Tryz.prog 134 := ⟨_, _, Tryz.func134, rfl, by decide⟩
theorem qfF : callee Tryz.prog 135 := ⟨_, _, Tryz.func135, rfl, by decide⟩
theorem qmh : callee Tryz.prog 145 := ⟨_, _, Tryz.func145, rfl, by decide⟩
theorem qih : callee Tryz.prog 147 := ⟨_, _, Tryz.func147, rfl, by decide⟩
theorem qib : callee Tryz.prog 139 := ⟨_, _, Tryz.func139, rfl, by decide⟩
theorem qkv : callee Tryz.prog 140 := ⟨_, _, Tryz.func140, rfl, by decide⟩
theorem qkR : callee Tryz.prog 149 := ⟨_, _, Tryz.func149, rfl, by decide⟩
theorem qma : callee Tryz.prog 150 := ⟨_, _, Tryz.func150, rfl, by decide⟩
theorem qii : callee Tryz.prog 159 := ⟨_, _, Tryz.func159, rfl, by decide⟩
theorem qgo : callee Tryz.prog 160 := ⟨_, _, Tryz.func160, rfl, by decide⟩
theorem qhJ : callee Tryz.prog 161 := ⟨_, _, Tryz.func161, rfl, by decide⟩
theorem qlw : callee Tryz.prog 162 := ⟨_, _, Tryz.func162, rfl, by decide⟩
theorem qkX : callee Tryz.prog 163 := ⟨_, _, Tryz.func163, rfl, by decide⟩
theorem qdv : Ty Tryz.prog 34 false 1 := ⟨⟨_, Tryz.underlying34, rfl⟩, by kernel_rfl⟩
theorem qbq : ElT Tryz.prog 34 90 5 64 := .of Tryz.underlying34 ob od
theorem qac : Ty Tryz.prog 40 true 7 := ⟨⟨_, Tryz.underlying40, rfl⟩, by kernel_rfl⟩
theorem qT : Fld Tryz.prog 40 0 0 := ⟨_, _, 1, Tryz.underlying40, rfl, rfl, by kernel_rfl, by decide⟩
theorem qeM : Fld Tryz.prog 40 1 1 := ⟨_, _, 1, Tryz.underlying40, rfl, rfl, by kernel_rfl, by decide⟩
theorem qh0 : Fld Tryz.prog 40 2 2 := ⟨_, _, 1, Tryz.underlying40, rfl, rfl, by kernel_rfl, by decide⟩
theorem qh3 : Fld Tryz.prog 40 3 3 := ⟨_, _, 1, Tryz.underlying40, rfl, rfl, by kernel_rfl, by decide⟩
theorem qgP : Fld Tryz.prog 40 4 4 := ⟨_, _, 1, Tryz.underlying40, rfl, rfl, by kernel_rfl, by decide⟩
theorem qh1 : Fld Tryz.prog 40 5 5 := ⟨_, _, 1, Tryz.underlying40, rfl, rfl, by kernel_rfl, by decide⟩
theorem qjq : Fld Tryz.prog 40 6 6 := ⟨_, _, 1, Tryz.underlying40, rfl, rfl, by kernel_rfl, by decide⟩
theorem qc4 : zQ Tryz.prog 40 [.lst [], .lst [], .lst [], .lst [], .int .i64 0, .int .i64 0, .bool false] := .mk rfl ob Tryz.underlying40 ob
theorem qgl : z7 Tryz.prog 40 (.agg [.lst [], .lst [], .lst [], .lst [], .int .i64 0, .int .i64 0, .bool false]) := .agg qc4
theorem qqH : Ty Tryz.prog 41 false 1 := ⟨⟨_, Tryz.underlying41, rfl⟩, by kernel_rfl⟩
theorem qd0 : ElT Tryz.prog 41 62 5 56 := .of Tryz.underlying41 ob od
theorem qmf : Ty Tryz.prog 62 true 5 := ⟨⟨_, Tryz.underlying62, rfl⟩, by kernel_rfl⟩
theorem qqi : Fld Tryz.prog 62 0 0 := ⟨_, _, 1, Tryz.underlying62, rfl, rfl, by kernel_rfl, by decide⟩
theorem qqc : Fld Tryz.prog 62 1 1 := ⟨_, _, 1, Tryz.underlying62, rfl, rfl, by kernel_rfl, by decide⟩
theorem qqM : Fld Tryz.prog 62 2 2 := ⟨_, _, 1, Tryz.underlying62, rfl, rfl, by kernel_rfl, by decide⟩
theorem qqj : Fld Tryz.prog 62 3 3 := ⟨_, _, 1, Tryz.underlying62, rfl, rfl, by kernel_rfl, by decide⟩
theorem qqm : Fld Tryz.prog 62 4 4 := ⟨_, _, 1, Tryz.underlying62, rfl, rfl, by kernel_rfl, by decide⟩
theorem qfI : zQ Tryz.prog 62 [.int .i64 0, .int .i64 0, .int .i64 0, .int .i64 0, .lst []] := .mk rfl ob Tryz.underlying62 ob
theorem qoa : z7 Tryz.prog 62 (.agg [.int .i64 0, .int .i64 0, .int .i64 0, .int .i64 0, .lst []]) := .agg qfI
theorem qd7 : Ty Tryz.prog 90 true 5 := ⟨⟨_, Tryz.underlying90, rfl⟩, by kernel_rfl⟩
theorem qgy : Fld Tryz.prog 90 0 0 := ⟨_, _, 3, Tryz.underlying90, rfl, rfl, by kernel_rfl, by decide⟩
theorem qmK : Fld Tryz.prog 90 1 3 := ⟨_, _, 1, Tryz.underlying90, rfl, rfl, by kernel_rfl, by decide⟩
theorem qeh : Fld Tryz.prog 90 2 4 := ⟨_, _, 1, Tryz.underlying90, rfl, rfl, by kernel_rfl, by decide⟩
theorem qiC : zQ Tryz.prog 90 [.agg [.int .i64 0, .str ⟨#[]⟩, .lst []], .int .i64 0, .int .i64 0] := .mk rfl ob Tryz.underlying90 ob
theorem qj4 : z7 Tryz.prog 90 (.agg [.agg [.int .i64 0, .str ⟨#[]⟩, .lst []], .int .i64 0, .int .i64 0]) := .agg qiC
theorem qlU : callee Tryz.prog 10 := ⟨_, _, Tryz.func10, rfl, by decide⟩
theorem qkL : callee Tryz.prog 11 := ⟨_, _, Tryz.func11, rfl, by decide⟩
theorem qfY : callee Tryz.prog 32 := ⟨_, _, Tryz.func32, rfl, by decide⟩
theorem qlr : callee Tryz.prog 33 := ⟨_, _, Tryz.func33, rfl, by decide⟩
theorem qmd : callee Tryz.prog 34 := ⟨_, _, Tryz.func34, rfl, by decide⟩
theorem qk0 : callee Tryz.prog 73 := ⟨_, _, Tryz.func73, rfl, by decide⟩
theorem qho : callee Tryz.prog 74 := ⟨_, _, Tryz.func74, rfl, by decide⟩
theorem qje : callee Tryz.prog 75 := ⟨_, _, Tryz.func75, rfl, by decide⟩
theorem qkI : callee Tryz.prog 76 := ⟨_, _, Tryz.func76, rfl, by decide⟩
theorem qhB : callee Tryz.prog 77 := ⟨_, _, Tryz.func77, rfl, by decide⟩
theorem qcb : callee Tryz.prog 79 := ⟨_, _, Tryz.func79, rfl, by decide⟩
theorem qkz : callee Tryz.prog 111 := ⟨_, _, Tryz.func111, rfl, by decide⟩
theorem qjy : callee Tryz.prog 115 := ⟨_, _, Tryz.func115, rfl, by decide⟩
theorem qlD : callee Tryz.prog 138 := ⟨_, _, Tryz.func138, rfl, by decide⟩
theorem qiF : callee Tryz.prog 143 := ⟨_, _, Tryz.func143, rfl, by decide⟩
structure TyS (P : Program) (t : TypeId) (b : Bool) (n : Nat) : Prop where
 h : Ty P t b n
structure FlS (P : Program) (s : TypeId) (f off : Nat) : Prop where
 h : Fld P s f off
structure ElS (P : Program) (t e : TypeId) (s by_ : Nat) : Prop where
 h : ElT P t e s by_
theorem quR : TyS Tryz.prog 200 false 1 := ⟨qxh⟩
theorem qqr : TyS Tryz.prog 53 false 1 := ⟨qnr⟩
theorem qqk : TyS Tryz.prog 36 false 1 := ⟨qsN⟩
theorem qqD : TyS Tryz.prog 22 false 1 := ⟨qr8⟩
theorem qpD : TyS Tryz.prog 41 false 1 := ⟨qqH⟩
theorem qqd : TyS Tryz.prog 38 false 1 := ⟨qnn⟩
theorem qpC : TyS Tryz.prog 34 false 1 := ⟨qdv⟩
theorem qqU : TyS Tryz.prog 26 false 1 := ⟨qsC⟩
theorem qqR : TyS Tryz.prog 35 false 1 := ⟨qjb⟩
theorem qsX : TyS Tryz.prog 128 false 1 := ⟨qj0⟩
theorem qp9 : TyS Tryz.prog 56 false 1 := ⟨qss⟩
theorem qqQ : TyS Tryz.prog 23 false 1 := ⟨qns⟩
theorem qqF : TyS Tryz.prog 46 false 1 := ⟨qh5⟩
theorem qiT : TyS Tryz.prog 255 false 1 := ⟨qjd⟩
theorem qjT : TyS Tryz.prog 252 false 1 := ⟨qhm⟩
theorem qyB : TyS Tryz.prog 60 false 1 := ⟨qnq⟩
theorem qlt : TyS Tryz.prog 91 false 1 := ⟨qlX⟩
theorem qjt : TyS Tryz.prog 251 false 1 := ⟨qjV⟩
theorem qlC : TyS Tryz.prog 17 false 1 := ⟨qlY⟩
theorem qoX : TyS Tryz.prog 216 false 1 := ⟨qq0⟩
theorem qnR : TyS Tryz.prog 156 false 1 := ⟨qoy⟩
theorem qut : TyS Tryz.prog 276 false 1 := ⟨qwU⟩
theorem qof : TyS Tryz.prog 48 true 2 := ⟨qix⟩
theorem qn4 : TyS Tryz.prog 165 true 5 := ⟨qjk⟩
theorem qr6 : TyS Tryz.prog 37 false 1 := ⟨qn1⟩
theorem qmH : TyS Tryz.prog 40 true 7 := ⟨qac⟩
theorem qoe : TyS Tryz.prog 67 true 2 := ⟨qub⟩
theorem qrI : TyS Tryz.prog 27 false 1 := ⟨qtF⟩
theorem qny : TyS Tryz.prog 62 true 5 := ⟨qmf⟩
theorem qog : TyS Tryz.prog 168 true 2 := ⟨quW⟩
theorem qne : TyS Tryz.prog 90 true 5 := ⟨qd7⟩
theorem qn3 : TyS Tryz.prog 55 true 3 := ⟨qit⟩
theorem qoh : TyS Tryz.prog 50 true 3 := ⟨qus⟩
theorem qoU : TyS Tryz.prog 94 true 3 := ⟨qnW⟩
theorem qmb : TyS Tryz.prog 25 true 2 := ⟨qmM⟩
theorem qn7 : TyS Tryz.prog 103 true 3 := ⟨qvg⟩
theorem qn2 : TyS Tryz.prog 64 true 6 := ⟨qlg⟩
theorem qob : TyS Tryz.prog 78 true 4 := ⟨qdy⟩
theorem qA1 : TyS Tryz.prog 4 false 1 := ⟨qyg⟩
theorem qkk : TyS Tryz.prog 254 true 2 := ⟨qkZ⟩
theorem qgL : TyS Tryz.prog 261 true 2 := ⟨qeQ⟩
theorem qhP : TyS Tryz.prog 259 true 4 := ⟨qlE⟩
theorem qB9 : TyS Tryz.prog 3 false 1 := ⟨qfp⟩
theorem qya : TyS Tryz.prog 21 false 1 := ⟨qAZ⟩
theorem qyS : TyS Tryz.prog 2 false 1 := ⟨qAa⟩
theorem qon : TyS Tryz.prog 187 false 1 := ⟨qpr⟩
theorem qpm : TyS Tryz.prog 190 false 1 := ⟨qqh⟩
theorem qqV : TyS Tryz.prog 219 false 1 := ⟨qsd⟩
theorem qsy : TyS Tryz.prog 192 true 2 := ⟨qtI⟩
theorem qiG : TyS Tryz.prog 96 true 9 := ⟨qiY⟩
theorem qmE : TyS Tryz.prog 124 false 1 := ⟨qmU⟩
theorem qwL : TyS Tryz.prog 9 false 1 := ⟨qm4⟩
theorem qpN : TyS Tryz.prog 158 true 1 := ⟨qqs⟩
theorem qAc : TyS Tryz.prog 263 false 1 := ⟨qCw⟩
theorem qwV : TyS Tryz.prog 264 false 1 := ⟨qxn⟩
theorem qxs : TyS Tryz.prog 5 false 1 := ⟨qAd⟩
theorem quy : TyS Tryz.prog 12 false 1 := ⟨qxf⟩
theorem qqo : FlS Tryz.prog 48 0 0 := ⟨qm6⟩
theorem qq3 : FlS Tryz.prog 48 1 1 := ⟨qnt⟩
theorem qqx : FlS Tryz.prog 165 0 0 := ⟨qsJ⟩
theorem qp7 : FlS Tryz.prog 165 1 1 := ⟨qsh⟩
theorem qok : FlS Tryz.prog 40 0 0 := ⟨qT⟩
theorem qou : FlS Tryz.prog 40 1 1 := ⟨qeM⟩
theorem qoA : FlS Tryz.prog 40 2 2 := ⟨qh0⟩
theorem qom : FlS Tryz.prog 40 3 3 := ⟨qh3⟩
theorem qoz : FlS Tryz.prog 40 4 4 := ⟨qgP⟩
theorem qoo : FlS Tryz.prog 40 5 5 := ⟨qh1⟩
theorem qoj : FlS Tryz.prog 40 6 6 := ⟨qjq⟩
theorem qqY : FlS Tryz.prog 67 0 0 := ⟨qrY⟩
theorem qq6 : FlS Tryz.prog 67 1 1 := ⟨qsL⟩
theorem qps : FlS Tryz.prog 62 0 0 := ⟨qqi⟩
theorem qpu : FlS Tryz.prog 62 1 1 := ⟨qqc⟩
theorem qpn : FlS Tryz.prog 62 2 2 := ⟨qqM⟩
theorem qo9 : FlS Tryz.prog 62 3 3 := ⟨qqj⟩
theorem qo4 : FlS Tryz.prog 62 4 4 := ⟨qqm⟩
theorem qqb : FlS Tryz.prog 168 0 0 := ⟨qsq⟩
theorem qq4 : FlS Tryz.prog 168 1 1 := ⟨qrU⟩
theorem qo6 : FlS Tryz.prog 90 0 0 := ⟨qgy⟩
theorem qpS : FlS Tryz.prog 90 1 3 := ⟨qmK⟩
theorem qpV : FlS Tryz.prog 90 2 4 := ⟨qeh⟩
theorem qqL : FlS Tryz.prog 55 0 0 := ⟨qsa⟩
theorem qqa : FlS Tryz.prog 55 1 1 := ⟨qnb⟩
theorem qqt : FlS Tryz.prog 55 2 2 := ⟨qnc⟩
theorem qqf : FlS Tryz.prog 50 0 0 := ⟨qsk⟩
theorem qqg : FlS Tryz.prog 50 1 1 := ⟨qsu⟩
theorem qrJ : FlS Tryz.prog 94 0 0 := ⟨qtM⟩
theorem qsw : FlS Tryz.prog 94 1 1 := ⟨qtX⟩
theorem qso : FlS Tryz.prog 94 2 2 := ⟨qtZ⟩
theorem qnQ : FlS Tryz.prog 25 0 0 := ⟨qol⟩
theorem qnG : FlS Tryz.prog 25 1 1 := ⟨qlQ⟩
theorem qql : FlS Tryz.prog 103 0 0 := ⟨qsA⟩
theorem qqA : FlS Tryz.prog 103 1 1 := ⟨qsM⟩
theorem qq2 : FlS Tryz.prog 103 2 2 := ⟨qsn⟩
theorem qqC : FlS Tryz.prog 64 0 0 := ⟨qsW⟩
theorem qq5 : FlS Tryz.prog 64 1 1 := ⟨qmZ⟩
theorem qqP : FlS Tryz.prog 64 2 2 := ⟨qr4⟩
theorem qqE : FlS Tryz.prog 64 3 3 := ⟨qsK⟩
theorem qqq : FlS Tryz.prog 64 4 4 := ⟨qr3⟩
theorem qqW : FlS Tryz.prog 64 5 5 := ⟨qr1⟩
theorem qqN : FlS Tryz.prog 78 0 0 := ⟨qcn⟩
theorem qqu : FlS Tryz.prog 78 1 1 := ⟨qcP⟩
theorem qqB : FlS Tryz.prog 78 2 2 := ⟨qfO⟩
theorem qqG : FlS Tryz.prog 78 3 3 := ⟨qcB⟩
theorem qjv : FlS Tryz.prog 254 0 0 := ⟨qm⟩
theorem qjJ : FlS Tryz.prog 254 1 1 := ⟨qV⟩
theorem qiM : FlS Tryz.prog 261 0 0 := ⟨qcZ⟩
theorem qiQ : FlS Tryz.prog 261 1 1 := ⟨qdC⟩
theorem qjR : FlS Tryz.prog 259 0 0 := ⟨qkt⟩
theorem qjU : FlS Tryz.prog 259 1 1 := ⟨qkx⟩
theorem qjW : FlS Tryz.prog 259 2 2 := ⟨qkn⟩
theorem qjY : FlS Tryz.prog 259 3 3 := ⟨qeW⟩
theorem qpq : FlS Tryz.prog 192 0 0 := ⟨qqz⟩
theorem qo7 : FlS Tryz.prog 192 1 1 := ⟨qqv⟩
theorem qld : FlS Tryz.prog 96 0 0 := ⟨qlV⟩
theorem qlG : FlS Tryz.prog 96 1 3 := ⟨ql7⟩
theorem qnF : FlS Tryz.prog 158 0 0 := ⟨qoq⟩
theorem qu5 : ElS Tryz.prog 200 60 1 24 := ⟨qjf⟩
theorem qp6 : ElS Tryz.prog 53 48 2 40 := ⟨qd5⟩
theorem qqJ : ElS Tryz.prog 36 165 5 64 := ⟨qgg⟩
theorem qqe : ElS Tryz.prog 22 67 2 24 := ⟨qni⟩
theorem qp4 : ElS Tryz.prog 41 62 5 56 := ⟨qd0⟩
theorem qqO : ElS Tryz.prog 38 168 2 32 := ⟨qeY⟩
theorem qo1 : ElS Tryz.prog 34 90 5 64 := ⟨qbq⟩
theorem qp8 : ElS Tryz.prog 26 55 3 48 := ⟨qfL⟩
theorem qqT : ElS Tryz.prog 35 50 3 48 := ⟨qd3⟩
theorem qr5 : ElS Tryz.prog 128 94 3 24 := ⟨qgW⟩
theorem qqn : ElS Tryz.prog 56 103 3 48 := ⟨qrO⟩
theorem qqX : ElS Tryz.prog 23 64 6 120 := ⟨qid⟩
theorem qqZ : ElS Tryz.prog 46 78 4 56 := ⟨qba⟩
theorem qiS : ElS Tryz.prog 255 261 2 16 := ⟨qdF⟩
theorem qjX : ElS Tryz.prog 252 259 4 56 := ⟨qfV⟩
theorem qyv : ElS Tryz.prog 60 3 1 8 := ⟨qcO⟩
theorem qlv : ElS Tryz.prog 91 96 9 144 := ⟨qgz⟩
theorem qsD : ElS Tryz.prog 37 165 5 64 := ⟨qeu⟩
theorem aTy {P : Program} {t : TypeId} {b : Bool} {n : Nat} (h : TyS P t b n := by first | exact quR | exact qqr | exact qqk | exact qqD | exact qpD | exact qqd | exact qpC | exact qqU | exact qqR | exact qsX | exact qp9 | exact qqQ | exact qqF | exact qiT | exact qjT | exact qyB | exact qlt | exact qjt | exact qlC | exact qoX | exact qnR | exact qut | exact qof | exact qn4 | exact qr6 | exact qmH | exact qoe | exact qrI | exact qny | exact qog | exact qne | exact qn3 | exact qoh | exact qoU | exact qmb | exact qn7 | exact qn2 | exact qob | exact qA1 | exact qkk | exact qgL | exact qhP | exact qB9 | exact qya | exact qyS | exact qon | exact qpm | exact qqV | exact qsy | exact qiG | exact qmE | exact qwL | exact qpN | exact qAc | exact qwV | exact qxs | exact quy) : TyS P t b n := h
theorem aFl {P : Program} {s : TypeId} {f off : Nat} (h : FlS P s f off := by first | exact qqo | exact qq3 | exact qqx | exact qp7 | exact qok | exact qou | exact qoA | exact qom | exact qoz | exact qoo | exact qoj | exact qqY | exact qq6 | exact qps | exact qpu | exact qpn | exact qo9 | exact qo4 | exact qqb | exact qq4 | exact qo6 | exact qpS | exact qpV | exact qqL | exact qqa | exact qqt | exact qqf | exact qqg | exact qrJ | exact qsw | exact qso | exact qnQ | exact qnG | exact qql | exact qqA | exact qq2 | exact qqC | exact qq5 | exact qqP | exact qqE | exact qqq | exact qqW | exact qqN | exact qqu | exact qqB | exact qqG | exact qjv | exact qjJ | exact qiM | exact qiQ | exact qjR | exact qjU | exact qjW | exact qjY | exact qpq | exact qo7 | exact qld | exact qlG | exact qnF) : FlS P s f off := h
theorem aEl {P : Program} {t e : TypeId} {s by_ : Nat} (h : ElS P t e s by_ := by first | exact qu5 | exact qp6 | exact qqJ | exact qqe | exact qp4 | exact qqO | exact qo1 | exact qp8 | exact qqT | exact qr5 | exact qqn | exact qqX | exact qqZ | exact qiS | exact qjX | exact qyv | exact qlv | exact qsD) : ElS P t e s by_ := h
theorem aAll {α : Type} {f : α → D} {s : Nat} (h : ∀ a, sz (f a) = s := by first | exact fun _ => rfl | exact qcR | exact qen | exact qcJ | exact qfP | exact qgf | exact qi6 | exact qek | exact qhq | exact qeO | exact sz_S_api_Rank | exact qej | exact qcs | exact qdW | exact qae | exact qcU | exact qd8 | exact qed) : ∀ a, sz (f a) = s := h
theorem aOne {d : D} {n : Nat} (h : sz d = n := by first | exact rfl | exact qcR _ | exact qen _ | exact qcJ _ | exact qfP _ | exact qgf _ | exact qi6 _ | exact qek _ | exact qhq _ | exact qeO _ | exact sz_S_api_Rank _ | exact qej _ | exact qcs _ | exact qdW _ | exact qae _ | exact qcU _ | exact qd8 _ | exact qed _) : sz d = n := h
structure Bo (A B : Prop) : Prop where
 a : A
 b : B
def xo (P : Program) (o : Oper) (env : Env) : Option (D × Prop) := match o.op with
 | .move x => match ev env x with
  | some d => some (d, True)
  | none => none
 | .assign x => match ev env x with
  | some d => some (d, True)
  | none => none
 | .extract x j => match ev env x with
  | some (.tup ds) => match ds[j]? with
   | some d => some (d, True)
   | none => none
  | _ => none
 | .unOp .not _ x => match ev env x with
  | some (.bool b) => some (.bool (!b), True)
  | _ => none
 | .pick c x y => match ev env c with
  | some (.bool true) => match ev env x with
   | some d => some (d, True)
   | none => none
  | some (.bool false) => match ev env y with
   | some d => some (d, True)
   | none => none
  | _ => none
 | .binOp op _ x y _ => match ev env x with
  | some (.int k m) => match ev env y with
   | some (.int k' n) => if k = k' then match icmp op m n with
    | some b => some (.bool b, True)
    | none => none else none
   | _ => none
  | _ => none
 | .load t x => match ev env x with
  | some (.ptr d) => some (d, TyS P t d.isAgg (sz d))
  | _ => none
 | .fieldAddr s x f => match ev env x with
  | some (.ptr (.agg fs)) => match fs[f]? with
   | some d => some (.ptr d, Bo (FlS P s f (szs (fs.take f))) (d.plain = true))
   | none => none
  | _ => none
 | _ => none
theorem qz4 {P : Program} {o : Oper} {env : Env} {d : D} {C : Prop} (h : xo P o env = some (d, C)) (hc : C) : zE P o (ev env) d := by
 unfold xo at h
 split at h
 rename_i x ho
 split at h
 rename_i e hx
 cases h
 exact qjn ho hx
 cases h
 rename_i x ho
 split at h
 rename_i e hx
 cases h
 exact qi7 ho hx
 cases h
 rename_i x j ho
 split at h
 rename_i ds hx
 split at h
 rename_i e he
 cases h
 exact qx2 ho hx he
 cases h
 cases h
 rename_i t x ho
 split at h
 rename_i b hx
 cases h
 exact qDe ho hx
 cases h
 rename_i c x y ho
 split at h
 rename_i hcc
 split at h
 rename_i e hx
 cases h
 exact qyo ho hcc hx
 cases h
 rename_i hcc
 split at h
 rename_i e hx
 cases h
 exact qzy ho hcc hx
 cases h
 cases h
 rename_i op t x y t' ho
 split at h
 rename_i k m hx
 split at h
 rename_i k' n hy
 split at h
 rename_i hk
 subst hk
 split at h
 rename_i b hb
 cases h
 exact qt8 ho hx hy hb
 cases h
 cases h
 cases h
 cases h
 rename_i t x ho
 split at h
 rename_i e hx
 cases h
 exact qj1 ho hx hc.h rfl
 cases h
 rename_i s x f ho
 split at h
 rename_i fs hx
 split at h
 rename_i e he
 cases h
 exact qH ho hc.a.h hx he rfl hc.b
 cases h
 cases h
 cases h
def xr (P : Program) (l : List Oper) : Nat → List (Nat × Cls) → Env → Prop → Option (List (Nat × Cls) × Env × Prop)
 | 0, r, e, C => some (r, e, C)
 | n + 1, r, e, C => match r with
  | [] => none
  | (i, c) :: r => match l[i]? with
   | none => none
   | some o => match zZ l e o with
    | none => none
    | some false => match o.dst with
     | some t => xr P l n r ((t, .undef) :: e) C
     | none => xr P l n r e C
    | some true => match c with
     | .d => match o.dst with
      | none => none
      | some t => match xo P o e with
       | some (d, C') => xr P l n r ((t, d) :: e) (Bo C C')
       | none => none
     | _ => none
theorem qm1 {P : Program} {l : List Oper} {X : Env → D → St → Prop} {Q : Env → St → Prop} {σ : St} {r' : List (Nat × Cls)} {e' : Env} {C' : Prop} (hk : Run P l.toArray X Q r' e' σ) (hC : C') : ∀ (n : Nat) (r : List (Nat × Cls)) (e : Env) (C : Prop), xr P l n r e C = some (r', e', C') → C ∧ Run P l.toArray X Q r e σ
 | 0, r, e, C, h => by
  simp only [xr, Option.some.injEq, Prod.mk.injEq] at h
  obtain ⟨rfl, rfl, rfl⟩ := h
  exact ⟨hC, hk⟩
 | n + 1, [], e, C, h => by cases h
 | n + 1, (i, c) :: r, e, C, h => by
  simp only [xr] at h
  split at h
  cases h
  rename_i o ho
  split at h
  cases h
  rename_i hw
  split at h
  rename_i t ht
  obtain ⟨h1, h2⟩ := qm1 hk hC n r _ C h
  exact ⟨h1, qrw ho ht hw h2⟩
  rename_i ht
  obtain ⟨h1, h2⟩ := qm1 hk hC n r _ C h
  exact ⟨h1, qCD ho ht hw h2⟩
  rename_i hw
  split at h
  split at h
  cases h
  rename_i t ht
  split at h
  rename_i d C1 hx
  obtain ⟨h1, h2⟩ := qm1 hk hC n r _ (Bo C C1) h
  exact ⟨h1.a, r_d ho ht hw (qz4 hx h1.b) h2⟩
  cases h
  cases h
theorem tz {P : Program} {te n : Nat} {b : Bool} {d : D} (h : TyS P te b n) (e : sz d = n) : TyS P te b (sz d) := by rw [e]; exact h
theorem aTz {P : Program} {te n : Nat} {b : Bool} (h : TyS P te b n := by first | exact tz qob (qcR _) | exact tz qof (qen _) | exact tz qn3 (qcJ _) | exact tz qn4 (qfP _) | exact tz qoh (qgf _) | exact tz qoe (qi6 _) | exact tz qn2 (qek _) | exact tz qmb (qhq _) | exact tz qog (qeO _) | exact tz qn7 (sz_S_api_Rank _) | exact tz qhP (qej _) | exact tz qgL (qcs _) | exact tz qmH (qdW _) | exact tz qne (qae _) | exact tz qny (qcU _) | exact tz qoU (qd8 _) | exact tz qiG (qed _)) : TyS P te b n := h
theorem qg {P : Program} {l : List Oper} {X : Env → D → St → Prop} {Q : Env → St → Prop} {σ : St} {r r' : List (Nat × Cls)} {e e' : Env} {C : Prop} (n : Nat) (h : xr P l n r e True = some (r', e', C)) (hk : Run P l.toArray X Q r' e' σ) (hC : C := by repeat' (first | exact True.intro | refine Bo.mk ?_ ?_ | exact rfl | (exact aFl) | (exact aTy) | (exact aTz))) : Run P l.toArray X Q r e σ := (qm1 hk hC n r e True h).2
def ixd : Nat → Nat → List (Nat × Cls)
 | _, 0 => []
 | i, n + 1 => (i, .d) :: ixd (i + 1) n
theorem quc : ∀ (n i : Nat), (ixd i n).map (·.1) = List.range' i n
 | 0, i => rfl
 | n + 1, i => by rw [ixd, jr, quc n (i + 1), List.range'_succ]
theorem quP {P : Program} {f : FuncId} {fn : Func} {K : Ctx} {R : D → St → Prop} {k : List Item} {env : Env} {σ : St} {id : Nat} {l : List Oper} (n : Nat) (h : Run P l.toArray (fun _ => K.X) (Goes P f fn K R k) (ixd 0 n) env σ) (hok : yt l.toArray fn.ntmps = true := by kernel_rfl) (hn : l.length = n := by exact rfl) : Goes P f fn K R (.code (.region id l.toArray false) :: k) env σ := qAG hok (ixd 0 n) (by rw [quc, hn, v8]) h
theorem qDM {P : Program} {f : FuncId} {fn : Func} {K : Ctx} {R : D → St → Prop} {k : List Item} {env env' : Env} {σ : St} {id : Nat} {ops : Array Oper} {C : Prop} (h : ∀ Q : Env → St → Prop, Q env' σ → C ∧ Run P ops.toList.toArray (fun _ => K.X) Q (ixd 0 ops.toList.length) env σ) (hok : yt ops fn.ntmps = true) (hk : Goes P f fn K R k env' σ) : C ∧ Goes P f fn K R (.code (.region id ops false) :: k) env σ := by
 cases ops with
 | mk l =>
  obtain ⟨h1, h2⟩ := h _ hk
  exact ⟨h1, qAG (l := l) hok (ixd 0 l.length) (by rw [quc, v8]) h2⟩
def yr (P : Program) (nt : Nat) : Nat → List Item → Env → Prop → Option (List Item × Env × Prop)
 | 0, k, e, C => some (k, e, C)
 | n + 1, .code (.seq x y) :: k, e, C => yr P nt n (.code x :: .code y :: k) e C
 | n + 1, .code .skip :: k, e, C => yr P nt n k e C
 | n + 1, .inBlock _ :: k, e, C => yr P nt n k e C
 | n + 1, .code (.block id c) :: k, e, C => yr P nt n (.code c :: .inBlock id :: k) e C
 | n + 1, .code (.exit id) :: k, e, C => match exitTo id k with
  | some k' => yr P nt n k' e C
  | none => none
 | n + 1, .code (.cond c x y) :: k, e, C => match zam c with
  | true => match ev e c with
   | some (.bool true) => yr P nt n (.code x :: k) e C
   | some (.bool false) => yr P nt n (.code y :: k) e C
   | _ => none
  | false => none
 | n + 1, .code (.region _ ops false) :: k, e, C => match xr P ops.toList ops.toList.length (ixd 0 ops.toList.length) e C with
  | some ([], e', C') => yr P nt n k e' (Bo C' (yt ops nt = true))
  | _ => none
 | _ + 1, _, _, _ => none
theorem qAm {P : Program} {f : FuncId} {fn : Func} {K : Ctx} {R : D → St → Prop} {σ : St} {k' : List Item} {e' : Env} {C' : Prop} (hk : Goes P f fn K R k' e' σ) (hC : C') : ∀ (n : Nat) (k : List Item) (e : Env) (C : Prop), yr P fn.ntmps n k e C = some (k', e', C') → C ∧ Goes P f fn K R k e σ := by
 intro n
 induction n with
 | zero =>
  intro k e C h
  simp only [yr, Option.some.injEq, Prod.mk.injEq] at h
  obtain ⟨rfl, rfl, rfl⟩ := h
  exact ⟨hC, hk⟩
 | succ n ih =>
  intro k e C h
  unfold yr at h
  split at h
  cases ‹_ + 1 = 0›
  rename_i hn
  cases hn
  obtain ⟨h1, h2⟩ := ih _ _ _ h
  exact ⟨h1, qaC h2⟩
  rename_i hn
  cases hn
  obtain ⟨h1, h2⟩ := ih _ _ _ h
  exact ⟨h1, qjK h2⟩
  rename_i hn
  cases hn
  obtain ⟨h1, h2⟩ := ih _ _ _ h
  exact ⟨h1, qfa h2⟩
  rename_i hn
  cases hn
  obtain ⟨h1, h2⟩ := ih _ _ _ h
  exact ⟨h1, qD h2⟩
  rename_i hn
  cases hn
  split at h
  rename_i k1 he
  obtain ⟨h1, h2⟩ := ih _ _ _ h
  exact ⟨h1, qmL he h2⟩
  cases h
  rename_i hn
  cases hn
  split at h
  rename_i ho
  split at h
  rename_i hc
  obtain ⟨h1, h2⟩ := ih _ _ _ h
  exact ⟨h1, qrm hc ho (fun _ => h2) fun h => by cases h⟩
  rename_i hc
  obtain ⟨h1, h2⟩ := ih _ _ _ h
  exact ⟨h1, qrm hc ho (fun h => by cases h) fun _ => h2⟩
  cases h
  cases h
  rename_i hn
  cases hn
  split at h
  rename_i hx
  obtain ⟨h1, h2⟩ := ih _ _ _ h
  exact qDM (fun Q hQ => qm1 (r' := []) (Q := Q) (show Run P _ _ Q [] _ σ from hQ) h1.a _ _ _ _ hx) h1.b h2
  cases h
  cases h
theorem qDm {P : Program} {f : FuncId} {fn : Func} {K : Ctx} {R : D → St → Prop} {σ : St} {k k' : List Item} {e e' : Env} {C : Prop} (n : Nat) (h : yr P fn.ntmps n k e True = some (k', e', C)) (hk : Goes P f fn K R k' e' σ) (hC : C := by repeat' (first | exact True.intro | refine Bo.mk ?_ ?_ | exact rfl | (exact aFl) | (exact aTy) | (exact aTz) | kernel_rfl)) : Goes P f fn K R k e σ := (qAm hk hC n k e True h).2
section
variable {P : Program} {X : Env → D → St → Prop} {Q : Env → St → Prop} {l : List Oper} {i : Nat} {o : Oper} {t : Nat} {d : D} {env : Env} {σ : St} {rest : List (Nat × Cls)}
theorem qjP {α : Type} {f : α → D} {x : Operand} {te e : TypeId} {s by_ : Nat} {dx : D} {m : List α} (h : (l[i]?, o.dst, zZ l env o, o.op, ev env x, asL dx) = (some o, some t, some true, .call { callee := .builtin .len, args := #[x], argTypes := #[te] }, some dx, some (m.map f))) (hk : Run P l.toArray X Q rest ((t, .int .i64 (m.length : Int)) :: env) σ) (hE : ElS P te e s by_ := by exact aEl) : Run P l.toArray X Q ((i, .d) :: rest) env σ := by
 simp only [Prod.mk.injEq] at h
 obtain ⟨h1, h2, h3, h4, h5, h6⟩ := h
 exact r_d h1 h2 h3 (qyA m h4 hE.h h5 (asl h6)) hk
theorem qop {α : Type} {f : α → D} {x ix : Operand} {te e : TypeId} {s by_ : Nat} {dx : D} {m : List α} {k : IntKind} {n : Int} {q : α} (hq : zh m n = some q) (h : (l[i]?, o.dst, zZ l env o, o.op, ev env x, asL dx, ev env ix) = (some o, some t, some true, .indexAddr te x ix, some dx, some (m.map f), some (.int k n))) (hk : Run P l.toArray X Q rest ((t, .ptr (f q)) :: env) σ) (hE : ElS P te e s by_ := by exact aEl) (hall : ∀ a, sz (f a) = s := by exact aAll) (hp : (f q).plain = true := by exact rfl) : Run P l.toArray X Q ((i, .d) :: rest) env σ := by
 simp only [Prod.mk.injEq] at h
 obtain ⟨h1, h2, h3, h4, h5, h6, h7⟩ := h
 exact r_d h1 h2 h3 (qur m h4 hE.h h5 (asl h6) h7 hq hall hp) hk
def evs (env : Env) : List Operand → Option (List D)
 | [] => some []
 | x :: xs => match ev env x with
  | none => none
  | some d => match evs env xs with
   | none => none
   | some ds => some (d :: ds)
theorem qv2 : ∀ (xs : List Operand) (ds : List D), evs env xs = some ds → zal (ev env) xs ds
 | [], ds, h => by
  simp only [evs, Option.some.injEq] at h
  subst h
  exact .nil
 | x :: xs, ds, h => by
  simp only [evs] at h
  split at h
  cases h
  rename_i d hd
  split at h
  cases h
  rename_i ds' hds
  cases h
  exact .cons hd (Wk.refl _) (qv2 xs ds' hds)
theorem qem {f : FuncId} {args : Array Operand} {ats : Array TypeId} {ds : List D} (h : (l[i]?, o.dst, zZ l env o, o.op, evs env args.toList) = (some o, some t, some true, .call { callee := .value (.func f), args := args, argTypes := ats }, some ds)) (hf : callee P f) (hS : zg P f ds d) (hk : Run P l.toArray X Q rest ((t, d) :: env) σ) : Run P l.toArray X Q ((i, .d) :: rest) env σ := by
 simp only [Prod.mk.injEq] at h
 obtain ⟨h1, h2, h3, h4, h5⟩ := h
 exact r_d h1 h2 h3 (qiv h4 hf (qv2 _ _ h5) hS) hk
def zaL (env : Env) : List Nat → Option Env
 | [] => some []
 | t :: ts => match lk env t with
  | none => none
  | some d => match zaL env ts with
   | none => none
   | some e => some ((t, d) :: e)
theorem qpX : ∀ (ts : List Nat) (e : Env), zaL env ts = some e → Sub e env
 | [], e, h => by
  simp only [zaL, Option.some.injEq] at h
  subst h
  exact Sub.nil _
 | t :: ts, e, h => by
  simp only [zaL] at h
  split at h
  cases h
  rename_i d hd
  split at h
  cases h
  rename_i e' he
  cases h
  exact Sub.cons' hd (qpX ts e' he)
theorem qbc {m : Md} {f : FuncId} {fn : Func} {K : Ctx} {R : D → St → Prop} {k : List Item} {env' : Env} (ts : List Nat) (h : zaL env ts = some env') (hk : zj m P f fn K R k env' σ) : zj m P f fn K R k env σ := qmD env' (qpX ts env' h) hk
def resE (env : Env) : List ResultVar → Option (List D)
 | [] => some []
 | .tmp t :: rs => match lk env t with
  | none => none
  | some d => match resE env rs with
   | none => none
   | some ds => some (d :: ds)
 | _ :: _ => none
theorem qy8 : ∀ (rs : List ResultVar) (ds : List D), resE env rs = some ds → zak P env σ rs ds
 | [], ds, h => by
  simp only [resE, Option.some.injEq] at h
  subst h
  exact .nil
 | .tmp t :: rs, ds, h => by
  simp only [resE] at h
  split at h
  cases h
  rename_i d hd
  split at h
  cases h
  rename_i ds' hds
  cases h
  exact .cons (za hd (Wk.refl _)) (qy8 rs ds' hds)
 | .cell _ _ :: rs, ds, h => by cases h
theorem qiP {f : FuncId} {fn : Func} {K : Ctx} {R : D → St → Prop} {k : List Item} {ds : List D} (hf : P.funcs[f]? = some fn) (h : resE env fn.results.toList = some ds) (hR : R (yL ds) σ) : Goes P f fn K R (.code .ret :: k) env σ := qbg hf ds (qy8 _ _ h) hR
theorem qDk {f : FuncId} {fn : Func} {R : D → St → Prop} {c : Code} {ds : List D} (hf : P.funcs[f]? = some fn) (hb : fn.body = some c) (h : ∀ K, (K.F0 = fun b => b ∈ yM σ) → Goes P f fn K R [.code c] (zaf 0 ds) σ) : Spec P f ds σ R := qoP _ hf hb rfl h
theorem qcw {te : TypeId} {x y : Operand} {n b : Nat} {τ : St} {d0 : D} (h : (l[i]?, o.dst, zZ l env o, o.op, ev env x, ev env y) = (some o, none, some true, .store te x y, some (.ref b 0 []), some d)) (hσ : σ.Perm (.cell b d0 :: τ)) (hk : Run P l.toArray X Q rest env (.cell b d :: τ)) (ht : TyS P te d.isAgg n := by exact aTy) (hn : sz d = n := by exact aOne) (hn' : sz d0 = n := by exact aOne) (hp : d.plain = true := by exact rfl) : Run P l.toArray X Q ((i, .w) :: rest) env σ := by
 simp only [Prod.mk.injEq] at h
 obtain ⟨h1, h2, h3, h4, h5, h6⟩ := h
 exact qeT h1 h2 h3 (qgk τ h4 h5 h6 (Wk.refl _) hσ ht.h hn hn' hp) hk
def dgc : Nat → Cls
 | 0 => .d
 | 1 => .w
 | 2 => .r
 | _ => .x
def ixc : Nat → Nat → Nat → List (Nat × Cls)
 | _, 0, _ => []
 | i, n + 1, c => (i, dgc (c % 4)) :: ixc (i + 1) n (c / 4)
theorem qzr : ∀ (n i c : Nat), (ixc i n c).map (·.1) = List.range' i n
 | 0, i, c => rfl
 | n + 1, i, c => by rw [ixc, jr, qzr n (i + 1), List.range'_succ]
theorem zf {f : FuncId} {fn : Func} {K : Ctx} {R : D → St → Prop} {k : List Item} {id : Nat} (n c : Nat) (h : Run P l.toArray (fun _ => K.X) (Goes P f fn K R k) (ixc 0 n c) env σ) (hok : yt l.toArray fn.ntmps = true := by kernel_rfl) (hn : l.length = n := by exact rfl) : Goes P f fn K R (.code (.region id l.toArray false) :: k) env σ := qAG hok (ixc 0 n c) (by rw [qzr, hn, v8]) h
theorem qea {m : Md} {f : FuncId} {fn : Func} {K : Ctx} {R : D → St → Prop} {k : List Item} {id : Nat} (n c : Nat) (h : Run P l.toArray NX (zj m P f fn K R k) (ixc 0 n c) env σ) (hm : P.follows .mixedOrders = true := by kernel_rfl) (hok : yt l.toArray fn.ntmps = true := by kernel_rfl) (hA : yR l.toArray (ixc 0 n c) = true := by kernel_rfl) (hx : (ixc 0 n c).all (fun x => decide (x.2 ≠ .x)) = true := by rfl) : zj m P f fn K R (.code (.region id l.toArray true) :: k) env σ := qCS hm hok (ixc 0 n c) hA h hx
def mv {α : Type} : List Nat → List α → List α
 | [], l => l
 | k :: ks, l => match l[k]? with
  | none => l
  | some x => mv ks (x :: l.eraseIdx k)
theorem mv1 {α : Type} : ∀ (k : Nat) (l : List α) (x : α), l[k]? = some x → l.Perm (x :: l.eraseIdx k)
 | _, [], x, h => by simp at h
 | 0, a :: l, x, h => by
  cases h
  exact .refl _
 | k + 1, a :: l, x, h => ((mv1 k l x (by simpa using h)).cons a).trans (.swap _ _ _)
theorem pS {α : Type} : ∀ (ks : List Nat) (l : List α), l.Perm (mv ks l)
 | [], l => .refl _
 | k :: ks, l => by
  unfold mv
  split
  exact .refl _
  rename_i x hx
  exact (mv1 k l x hx).trans (pS ks _)
theorem sbr {e : Env} (h : zaL env (e.map vp) = some e) : Sub e env := qpX _ _ h
theorem pk0 {α : Type} {l m : List α} (a : α) (h : l.Perm m) : (a :: l).Perm (a :: m) := h.cons a
theorem pk1 {α : Type} {l m : List α} (a b : α) (h : (a :: l).Perm m) : (a :: b :: l).Perm (b :: m) := (pf1 _ _ _).trans (h.cons b)
theorem pk2 {α : Type} {l m : List α} (a b c : α) (h : (a :: b :: l).Perm m) : (a :: b :: c :: l).Perm (c :: m) := (pf2 _ _ _ _).trans (h.cons c)
theorem pk3 {α : Type} {l m : List α} (a b c d : α) (h : (a :: b :: c :: l).Perm m) : (a :: b :: c :: d :: l).Perm (d :: m) := (pf3 _ _ _ _ _).trans (h.cons d)
theorem pk4 {α : Type} {l m : List α} (a b c d e : α) (h : (a :: b :: c :: d :: l).Perm m) : (a :: b :: c :: d :: e :: l).Perm (e :: m) := (pf4 _ _ _ _ _ _).trans (h.cons e)
theorem pkz {α : Type} {l m : List α} (h : l.Perm m := by repeat' (first | exact .nil | refine pk0 _ ?_ | refine pk1 _ _ ?_ | refine pk2 _ _ _ ?_ | refine pk3 _ _ _ _ ?_ | refine pk4 _ _ _ _ _ ?_)) : l.Perm m := h
theorem qb4 {te : TypeId} {x : Operand} {b off n : Nat} {path : List Nat} {d0 : D} (j : Nat) (h : (l[i]?, o.dst, zZ l env o, o.op, ev env x, σ[j]?, yX d0 path, yv d0 path) = (some o, some t, some true, .load te x, some (.ref b off path), some (.cell b d0), some d, off)) (hk : Run P l.toArray X Q rest ((t, d) :: env) σ) (ht : TyS P te d.isAgg n := by exact aTy) (hn : sz d = n := by exact aOne) : Run P l.toArray X Q ((i, .r) :: rest) env σ := by
 simp only [Prod.mk.injEq] at h
 obtain ⟨h1, h2, h3, h4, h5, h6, h7, h8⟩ := h
 exact r_r h1 h2 h3 (qd6 h4 h5 (List.mem_of_getElem? h6) h7 h8 ht.h hn) hk
theorem zbk {te : TypeId} {x : Operand} {b off n : Nat} {path : List Nat} {d0 : D} (j : Nat) (h : (l[i]?, o.dst, zZ l env o, o.op, ev env x, σ[j]?, yX d0 path, yv d0 path) = (some o, some t, some true, .load te x, some (.ref b off path), some (.cell b d0), some d, off)) (hk : Run P l.toArray X Q rest ((t, d) :: env) σ) (ht : TyS P te d.isAgg n := by exact aTy) (hn : sz d = n := by exact aOne) : Run P l.toArray X Q ((i, .w) :: rest) env σ := by
 simp only [Prod.mk.injEq] at h
 obtain ⟨h1, h2, h3, h4, h5, h6, h7, h8⟩ := h
 exact zbz h1 h2 h3 (qd6 h4 h5 (List.mem_of_getElem? h6) h7 h8 ht.h hn) hk
theorem qqp {tt t2 : TypeId} {x y : Operand} {j : Nat} (h : (l[i]?, o.dst, zZ l env o, o.op, ev env x, ev env y) = (some o, some t, some true, .binOp .add tt x y t2, some (.int .i64 (j : Int)), some (.int .i64 1))) (hk : Run P l.toArray X Q rest ((t, .int .i64 ((j + 1 : Nat) : Int)) :: env) σ) (hj : j < 9223372036854775807 := by omega) : Run P l.toArray X Q ((i, .d) :: rest) env σ := by
 simp only [Prod.mk.injEq] at h
 obtain ⟨h1, h2, h3, h4, h5, h6⟩ := h
 exact r_d h1 h2 h3 (zbq (r := ((j + 1 : Nat) : Int)) h4 h5 h6 (by simp [iar]) oa) hk
theorem hkc {m : Md} {f : FuncId} {fn : Func} {K : Ctx} {R : D → St → Prop} {k : List Item} {J : Env → St → Prop} (hk : ∀ e s, J e s → zj m P f fn K R k e s) (hJ : J env σ) : zj m P f fn K R k env σ := hk _ _ hJ
theorem hks {m : Md} {f : FuncId} {fn : Func} {K : Ctx} {R : D → St → Prop} {k : List Item} {J : Env → St → Prop} {E : Env} (hk : ∀ e s, J e s → zj m P f fn K R k e s) (hJ : J E σ) (hs : zaL env (E.map vp) = some E) : zj m P f fn K R k env σ := qmD _ (sbr hs) (hk _ _ hJ)
theorem ihs {m : Md} {f : FuncId} {fn : Func} {K : Ctx} {R : D → St → Prop} {k : List Item} {I : Nat → Env → St → Prop} {E : Env} {n n' : Nat} (hk : ∀ n' e s, n' < n → I n' e s → zj m P f fn K R k e s) (hI : I n' E σ) (hl : n' < n) (hs : zaL env (E.map vp) = some E) : zj m P f fn K R k env σ := qmD _ (sbr hs) (hk _ _ _ hl hI)
theorem g_cT {m : Md} {f : FuncId} {fn : Func} {K : Ctx} {R : D → St → Prop} {k : List Item} {c : Operand} {x y : Code} {b : Bool} (hc : ev env c = some (.bool b)) (hb : b = true) (h : zj m P f fn K R (.code x :: k) env σ) : zj m P f fn K R (.code (.cond c x y) :: k) env σ := qfh (by rw [hc, hb]) h
theorem g_cF {m : Md} {f : FuncId} {fn : Func} {K : Ctx} {R : D → St → Prop} {k : List Item} {c : Operand} {x y : Code} {b : Bool} (hc : ev env c = some (.bool b)) (hb : b = false) (h : zj m P f fn K R (.code y :: k) env σ) : zj m P f fn K R (.code (.cond c x y) :: k) env σ := qf4 (by rw [hc, hb]) h
theorem qBn {f : FuncId} {fn : Func} {K : Ctx} {R : D → St → Prop} {k : List Item} {id : Nat} (h : Run P l.toArray (fun _ => K.X) (Goes P f fn K R k) (ixd 0 l.length) env σ) (hok : yt l.toArray fn.ntmps = true := by kernel_rfl) : Goes P f fn K R (.code (.region id l.toArray false) :: k) env σ := quP l.length h hok rfl
structure Bx (H : Prop) : Prop where
 h : H
theorem st {G H : Prop} (h : H) (e : Bx H → G := by intro h; (repeat (first | refine qax ?_ | refine qg 1 rfl ?_ | refine qjP rfl ?_ | refine qqp rfl ?_ | refine qop (by assumption) rfl ?_ | ((fail_if_success (refine hkc (by assumption) ?_)); (first | refine qaC ?_ | refine qjK ?_ | refine qfa ?_ | refine qmL rfl ?_ | refine qfh rfl ?_ | refine qf4 rfl ?_ | refine g_cT rfl (by assumption) ?_ | refine g_cF rfl (by assumption) ?_ | refine qBn ?_)))); exact h.h) : G := e ⟨h⟩
theorem st0 {G H : Prop} (h : H) (e : Bx H → G := by intro h; (repeat (first | refine qax ?_ | refine qg 1 rfl ?_ | refine qjP rfl ?_ | refine qqp rfl ?_ | refine qop (by assumption) rfl ?_ | ((fail_if_success (refine hkc (by assumption) ?_)); (first | refine qaC ?_ | refine qjK ?_ | refine qfa ?_ | refine qmL rfl ?_ | refine qfh rfl ?_ | refine qf4 rfl ?_ | refine g_cT rfl (by assumption) ?_ | refine g_cF rfl (by assumption) ?_)))); exact h.h) : G := e ⟨h⟩
theorem zk {α β : Type} {c : Option α} {g : α → Option β} {v : β} {f : FuncId} {args : Array Operand} {ats : Array TypeId} {ds : List D} {en : α → D} (hr : c.bind g = some v) (h : (l[i]?, o.dst, zZ l env o, o.op, evs env args.toList) = (some o, some t, some true, .call { callee := .value (.func f), args := args, argTypes := ats }, some ds)) (hf : callee P f) (hS : ∀ r, c = some r → zg P f ds (en r)) (hk : ∀ r, c = some r → g r = some v → Run P l.toArray X Q rest ((t, en r) :: env) σ) : Run P l.toArray X Q ((i, .d) :: rest) env σ := by
 obtain ⟨r, h1, h2⟩ := zb hr
 exact qem h hf (hS r h1) (hk r h1 h2)
theorem qC {f : FuncId} {fn : Func} {R : D → St → Prop} {c : Code} {ds : List D} (hf : P.funcs[f]? = some fn) (hb : fn.body = some c) (h : ∀ K, (K.F0 = fun b => b ∈ yM σ) → P.funcs[f]? = some fn → Goes P f fn K R [.code c] (zaf 0 ds) σ) : Spec P f ds σ R := qDk hf hb fun K hK => h K hK hf
theorem fin {α : Type} {a b : Option α} {G : Prop} (hr : a = b) (e : a = b → G := by
 intro hr
 (repeat (first | refine qax ?_ | refine qg 1 rfl ?_ | refine qjP rfl ?_ | refine qqp rfl ?_ | refine qop (by assumption) rfl ?_ | ((fail_if_success (refine hkc (by assumption) ?_)); (first | refine qaC ?_ | refine qjK ?_ | refine qfa ?_ | refine qmL rfl ?_ | refine qfh rfl ?_ | refine qf4 rfl ?_ | refine g_cT rfl (by assumption) ?_ | refine g_cF rfl (by assumption) ?_ | refine qBn ?_))))
 first
 | (cases hr; refine qiP (by assumption) rfl ?_; rfl)
 | (refine hks (E := ?_) (by assumption) ?_ ?_; rotate_left; (repeat' (first | exact hr | exact rfl | apply Exists.intro | refine And.intro ?_ ?_)); all_goals (first | assumption | omega))
 | (refine ihs (E := ?_) (n' := ?_) (by assumption) ?_ ?_ ?_; rotate_left 2; (repeat' (first | exact hr | exact rfl | apply Exists.intro | refine And.intro ?_ ?_)); all_goals (first | assumption | omega))) : G := e hr
end
end Go.Proofs.YtamoolpdganckaaGreat
