/-
 Texts of the seat, merged.
-/
import Derived.Test.YtlfcjfiecoapoaaGreatLRB
set_option linter.unusedVariables false
set_option linter.unusedSimpArgs false
set_option linter.unnecessarySimpa false
set_option linter.all false
set_option maxHeartbeats 8000000
namespace Go.Proofs.YtlfcjfiecoapoaaGreat
set_option maxRecDepth 100000
open Go.RowKit
section
variable {P : Program} {o : Oper} {ρ : Operand → Option D} {d : D}
theorem qAc {K : Ctx} {p : Addr → Prop} {σ : St} {w : World} {e : TypeId} {s cap : Nat} {l : List D} {xs junk : List Value} (hi : Inv K p σ w) (hr : zx p w l xs) (h1 : ∀ u ∈ xs, u.oneCell' = true) (hall : zO s l) (hs0 : 0 < s) (hn : l.length ≤ cap) (hc : cap ≤ 9223372036854775807) :
 Rep p (w.alloc (.cells (xs ++ junk).toArray e)) (.arr w.heap.size s 0 l.length) (.slice (some ⟨w.heap.size, 0, none⟩) l.length cap) ∧ Inv K p (.arr w.heap.size l e s :: σ) (w.alloc (.cells (xs ++ junk).toArray e)) ∧ zU p w p (w.alloc (.cells (xs ++ junk).toArray e)) := by
 have g0 := qfM hi.pub (.cells (xs ++ junk).toArray e)
 refine ⟨?_, ?_, g0⟩
 · simp only [Rep]
   exact ⟨_, cap, rfl, hn, hc, .inr (by simp)⟩
 · refine (hi.alloc _).more ⟨hall, by omega, hs0, .inr ⟨xs, junk, hr.grow g0, h1, heap_alloc_new w _, fun a ha hb => ?_⟩⟩ fun b hb => ?_
   · obtain ⟨u, hu⟩ := hi.pub a ha
     have := qmO hu
     omega
   · cases l with
     | nil => simp [Ob.blk] at hb
     | cons y l =>
      simp only [Ob.blk, Option.some.injEq] at hb
      subst hb
      exact ⟨.inl hi.size, fun hm => by have := hi.lt hm; omega⟩
theorem ql0 {p : Addr → Prop} {w : World} {z : D} {v : Value} (hv : Rep p w z v) : ∀ n, zx p w (List.replicate n z) ((List.replicate n v).flatMap fun v => v.cells.toList)
 | 0 => zx.nil _ _
 | n + 1 => by
  simp only [List.replicate_succ, vl]
  exact zx.cons hv (ql0 hv n)
theorem qvl (zc : Array Value) (n : Nat) (hs : 0 < zc.size) : (madeCells zc (n * zc.size)).toList = (List.replicate n zc).flatMap fun z => z.toList := by
 apply List.ext_getElem?
 intro j
 have gen : ∀ n j, ((List.replicate n zc).flatMap fun z => z.toList)[j]? = if j < n * zc.size then zc[j % zc.size]? else none := by
  intro n
  induction n with
  | zero => intro j; simp
  | succ n ih =>
   intro j
   simp only [List.replicate_succ, vl]
   by_cases hj : j < zc.size
   · rw [jT (by simpa using hj), if_pos (by rw [ju, jU]; omega), Nat.mod_eq_of_lt hj]
     simp
   · rw [vn (by simp; omega), ih]
     simp only [jW]
     have e1 : (j - zc.size) % zc.size = j % zc.size := by
      conv => rhs; rw [← Nat.sub_add_cancel (Nat.le_of_not_lt hj), Nat.add_mod_right]
     rw [e1, ju, jU]
     by_cases h2 : j < n * zc.size + zc.size
     · rw [if_pos h2, if_pos (by omega)]
     · rw [if_neg h2, if_neg (by omega)]
 rw [gen]
 unfold madeCells
 by_cases hj : j < n * zc.size
 · rw [if_pos hj]
   have hm : j % zc.size < zc.size := Nat.mod_lt _ hs
   simp [hj, hm]
 · rw [if_neg hj]
   simp; omega
theorem qw8 {t e : TypeId} {x y : Operand} {s by_ n : Nat} {k k' : IntKind} {a1 a2 : Int} {z : D} {σ : St} (ho : o.op = .makeSlice t x y) (hE : ElT P t e s by_) (hZ : yn P e z) (hx : ρ x = some (.int k a1)) (hn1 : a1 = (n : Int)) (hy : ρ y = some (.int k' a2)) (hn2 : a2 = (n : Int)) (hb : by_ * n ≤ 281474976710656) (hc : n ≤ 9223372036854775807) :
 zB P o ρ σ fun d' σ' => ∃ b, d' = .arr b s 0 n ∧ σ' = .arr b (List.replicate n z) e s :: σ := fun K p a w hi h => by
 obtain ⟨hu, ⟨zv, hz, hzs⟩, hs0⟩ := hE
 obtain ⟨i, hii, hz', hsize, hby⟩ := info_parts hz
 have h1 := h x (by rw [ho]; simp [Op.operands]) _ hx
 have h2 := h y (by rw [ho]; simp [Op.operands]) _ hy
 simp only [Rep] at h1 h2
 subst hn1 hn2
 have hbi : (i.bytes : Int) * (n : Int) ≤ 281474976710656 := by
  have : ((i.bytes * n : Nat) : Int) ≤ 281474976710656 := by rw [hby]; omega
  rwa [Int.natCast_mul] at this
 have hr := run_make (P := P) w t e i zv hu hii hz' k k' (n : Int) (n : Int) (by omega) (vx _) hbi (by omega)
 simp only [vG] at hr
 have hrun : (execOp a.eval o).run P w = .ok (.value (.slice (some ⟨w.heap.size, 0, none⟩) n n)) (w.alloc (.cells (madeCells zv.cells (n * i.size)) e)) := by
  unfold execOp
  rw [ho]
  simp [h1.1, h2.1, hr]
 obtain ⟨v, v', q1, q2, q3, q4⟩ := hZ.rep p w
 rw [hii] at q1
 simp only [Option.map_some, Option.some.injEq] at q1
 rw [hz'] at q1
 injection q1 with q1
 subst q1
 have hsz : sz z = s := by rw [← Rep.sz q2, q3, hzs]
 have hone : ∀ u ∈ (List.replicate n v').flatMap (fun (v : Value) => v.cells.toList), u.oneCell' = true := fun u hu => by
  obtain ⟨v'', hv'', hu⟩ := vW.1 hu
  rw [Jb hv''] at hu
  exact Rep.one q2 q4 u hu
 have hcells : madeCells zv.cells (n * i.size) = (((List.replicate n v').flatMap fun (v : Value) => v.cells.toList) ++ ([] : List Value)).toArray := by
  apply j8.1
  rw [hsize, ← hzs, qvl _ _ (by omega)]
  simp only [jx]
  induction n with
  | zero => rfl
  | succ m ih =>
   clear ih
   have : ∀ m, (List.replicate m zv.cells).flatMap (fun z => z.toList) = (List.replicate m v').flatMap fun (v : Value) => v.cells.toList := by
    intro m
    induction m with
    | zero => rfl
    | succ m ih => simp only [List.replicate_succ, vl, ih, q3]
   exact this (m + 1)
 unfold Oper.wp
 rw [hrun, hcells]
 obtain ⟨r1, r2, r3⟩ := qAc (K := K) (p := p) (σ := σ) (w := w) (e := e) (cap := n) (l := List.replicate n z) (xs := (List.replicate n v').flatMap fun (v : Value) => v.cells.toList) (junk := ([] : List Value)) hi (ql0 q2 n) hone (fun d hd => by rw [Jb hd]; exact hsz) hs0 (by simp) hc
 rw [List.length_replicate] at r1
 exact ⟨_, _, _, p, rfl, ⟨_, rfl, rfl⟩, r1, r2, r3⟩
theorem qvN {t e : TypeId} {x ix : Operand} {s by_ b lo n : Nat} {k : IntKind} {m : Int} (j : Nat) (ho : o.op = .indexAddr t x ix) (hE : ElT P t e s by_) (hx : ρ x = some (.arr b s lo n)) (hix : ρ ix = some (.int k m)) (hm : m = (j : Int)) (hj : j < n) : zD P o ρ (.mref b (lo + j) s 0 []) := qeg fun p a w h => by
 have h1 := h x (by rw [ho]; simp [Op.operands]) _ hx
 have h7 := h ix (by rw [ho]; simp [Op.operands]) _ hix
 simp only [Rep] at h1 h7
 obtain ⟨A, c, h1, h2, h3, h4⟩ := h1
 have h4 := h4.resolve_left (by omega)
 subst h4 hm
 obtain ⟨i, hi, hin⟩ := jS.1 hE.size
 refine ⟨.pointer (some ⟨b, (lo + j) * s + 0, none⟩), ?_, by simp only [Rep]⟩
 unfold execOp
 rw [ho]
 simp [h1, h7.1, Instr.indexAt, asIntOf, run_underlying hE.1, sizeOf, typeInfo, hi, hin, hj, zbf, ju]
theorem qyq {s : TypeId} {x : Operand} {f off b i sz' ofs : Nat} {path : List Nat} (ho : o.op = .fieldAddr s x f) (hF : Fld P s f off) (hx : ρ x = some (.mref b i sz' ofs path)) : zD P o ρ (.mref b i sz' (ofs + off) (path ++ [f])) := qeg fun p a w h => by
 have h1 := h x (by rw [ho]; simp [Op.operands]) _ hx
 simp only [Rep] at h1
 refine ⟨.pointer (some ⟨b, i * sz' + ofs + off, none⟩), ?_, by simp only [Rep]; rw [jK]⟩
 unfold execOp
 rw [ho]
 simp [h1, qmd hF]
theorem qs8 {t e : TypeId} {x : Operand} {n b i s off : Nat} {path : List Nat} {σ : St} {l : List D} {d0 : D} (ho : o.op = .load t x) (hx : ρ x = some (.mref b i s off path)) (hσ : .arr b l e s ∈ σ) (hl : l[i]? = some d0) (hs : yR d0 path = some d) (hoff : yU d0 path = off) (ht : Ty P t d.isAgg n) (hn : sz d = n) : zB P o ρ σ fun d' σ' => d' = d ∧ σ' = σ := fun K p a w hi h => by
 have h1 := h x (by rw [ho]; simp [Op.operands]) _ hx
 simp only [Rep] at h1
 obtain ⟨g1, g2, g0, g3⟩ := hi.ok _ hσ
 obtain ⟨xs, junk, g3, g4, g5, g6⟩ := g3.resolve_left (fun h => by rw [h] at hl; simp at hl)
 obtain ⟨v0, hv0, hc0⟩ := g3.at_cell hl
 obtain ⟨v, hv, hc⟩ := qju hv0 hs
 have hmin : (l.take i).length = i := by have := (jr.1 hl).1; simp; omega
 rw [(g1.take i).szs, hmin] at hc0
 have hlr := qig (P := P) (b := b) (o := i * s + off) ht hn hv (fun j y hy => by
  rw [cell_of_row _ _ _ _ _ _ g5, ← hoff]
  have := hc0 _ y (hc j y hy)
  have hlt := (jr.1 this).1
  simp only [vS]
  rw [jK, jT hlt]
  exact this)
 have hr : (execOp a.eval o).run P w = .ok (.value v) w := by
  unfold execOp
  rw [ho]
  simp [h1, Instr.loadAt, Instr.sureAddr, hlr]
 unfold Oper.wp
 rw [hr]
 exact ⟨v, d, σ, p, rfl, ⟨rfl, rfl⟩, hv, hi, zU.refl p w⟩
theorem qyz {t e : TypeId} {x y : Operand} {n b i s off : Nat} {path : List Nat} {σ : St} (τ : St) {l : List D} {d0 dOld dn : D} {ag : Bool} (ho : o.op = .store t x y) (hx : ρ x = some (.mref b i s off path)) (hy : ρ y = some dn) (hw : Wk dn d) (hσ : σ.Perm (.arr b l e s :: τ)) (hl : l[i]? = some d0) (hp0 : d0.plain = true) (hs : yR d0 path = some dOld) (hoff : yU d0 path = off) (ht : Ty P t ag n) (hn : sz d = n) (hn' : sz dOld = n) (hp : d.plain = true) : zB P o ρ σ fun _ σ' => σ' = .arr b (l.set i (zaE d0 path d)) e s :: τ := fun K p a w hi h => by
 have h1 := h x (by rw [ho]; simp [Op.operands]) _ hx
 simp only [Rep] at h1
 have h2 := hw _ _ _ (h y (by rw [ho]; simp [Op.operands]) _ hy)
 have hi' := hi.perm hσ
 obtain ⟨g1, g2, g0, g3⟩ := hi'.ok _ (jd ..)
 obtain ⟨xs, junk, g3, g4, g5, g6⟩ := g3.resolve_left (fun h => by rw [h] at hl; simp at hl)
 obtain ⟨ii, hii, hin⟩ := jS.1 ht.2
 have hsz : (a.eval y).cells.size = n := by rw [Rep.sz h2, hn]
 have hil := (jr.1 hl).1
 have hmin : (l.take i).length = i := by simp; omega
 obtain ⟨v0, hv0, hsplit, hlen1⟩ := g3.at_ hl
 obtain ⟨v', q1, q2, q3, q4, q5⟩ := qnG hv0 hs (by rw [hn, hn']) h2 hp hp0
 have hset := zx.set g3 hl q5 q1
 rw [(g1.take i).szs, hmin] at hsplit hlen1 hset
 have hd0 : sz d0 = s := g1 d0 (List.mem_of_getElem? hl)
 have hv0l : v0.cells.toList.length = s := by rw [← hd0]; simpa using Rep.sz hv0
 have hxl : xs.length = l.length * s := by rw [g3.len, g1.szs]
 have hle : (i + 1) * s ≤ l.length * s := jL s (by omega)
 rw [ju, jU] at hle
 have hst := run_storeCells_at (P := P) b (i * s + off) e (a.eval y).cells.toList 0 (xs ++ junk).toArray w g5 (by
  simp only [jW, hsz, jZ, j3, jf]
  rw [hd0, hn, hoff] at q4
  omega) (Rep.one h2 hp)
 -- what the block holds now
 have hrow : ((xs ++ junk).toArray.toList.take (i * s + off + 0) ++ (a.eval y).cells.toList ++ (xs ++ junk).toArray.toList.drop (i * s + off + 0 + (a.eval y).cells.toList.length)).toArray = ((xs.take (i * s) ++ v'.cells.toList ++ xs.drop (i * s + s)) ++ junk).toArray := by
  congr 1
  simp only [jZ, jW, hsz, ← hn]
  rw [q3, hoff]
  rw [hd0, hoff] at q4
  generalize hA : xs.take (i * s) = A at hsplit hlen1 ⊢
  generalize hB : xs.drop (i * s + s) = B
  rw [hd0, hB] at hsplit
  rw [hsplit]
  have e1 : (A ++ v0.cells.toList ++ B ++ junk).take (i * s + off) = A ++ v0.cells.toList.take off := by
   rw [← hlen1, ji, ji, j6, v8 (by omega)]
  have e2 : (A ++ v0.cells.toList ++ B ++ junk).drop (i * s + off + sz d) = v0.cells.toList.drop (off + sz d) ++ (B ++ junk) := by
   rw [← hlen1, ji, ji, jK, j5, Ja (by omega)]
  rw [e1, e2]
  simp only [ji]
 rw [hrow] at hst
 have hr : (execOp a.eval o).run P w = .ok .skip (w.setRow b ((xs.take (i * s) ++ v'.cells.toList ++ xs.drop (i * s + s)) ++ junk).toArray) := by
  unfold execOp
  rw [ho]
  simp only [h1, Instr.storeAt, Instr.sureAddr, storeVar, Sem.run_bind, Sem.run_pure, Result.andThen_ok, sizeOf, typeInfo, run_program, hii, hsz, hin, ne_eq, not_true_eq_false, if_false, hst]
 have hcell : ∀ a', p a' → (w.setRow b ((xs.take (i * s) ++ v'.cells.toList ++ xs.drop (i * s + s)) ++ junk).toArray).cell? a' = w.cell? a' := fun a' ha => qis (setRow_other w b _ _ (g6 a' ha))
 have gr : zU p w p (w.setRow b ((xs.take (i * s) ++ v'.cells.toList ++ xs.drop (i * s + s)) ++ junk).toArray) := fun a' ha => ⟨ha, hcell a' ha⟩
 have hblk : ∀ l' : List D, l'.length = l.length → (Ob.arr b l' e s).blk = some b := fun l' hl' => by
  cases l' with
  | nil => simp at hl'; omega
  | cons => rfl
 unfold Oper.wp
 rw [hr]
 refine ⟨Go.undef, .undef, _, p, rfl, rfl, by simp only [Rep], ?_, gr⟩
 rw [q5, hd0] at hset
 refine hi'.write (b := b) (hblk l rfl) (hblk _ (by simp)) gr (fun a' ha => .inl ha) ⟨fun e' he' => ?_, by simpa using g2, g0, .inr ⟨_, junk, hset.grow gr, fun u hu => ?_, setRow_heap w b _ _ _ _ g5, g6⟩⟩ (fun a' ha => ?_) rfl rfl rfl (by simp) fun k hk => setRow_other w b k _ hk
 · rcases vX he' with h | rfl
   · exact g1 e' h
   · rw [q5, hd0]
 · rcases jn.1 hu with hu | hu
   · rcases jn.1 hu with hu | hu
     · exact g4 u (vg hu)
     · exact Rep.one q1 q2 u hu
   · exact g4 u (vh hu)
 · obtain ⟨u, hu⟩ := hi.pub a' ha
   exact ⟨u, by rw [hcell a' ha]; exact hu⟩
theorem qta {m : Md} {f : FuncId} {fn : Func} {K : Ctx} {R : D → St → Prop} {k : List Item} {env : Env} {σ τ : St} {e : TypeId} {b s n : Nat} {l : List D} (t : Nat) (hs : lk env t = some (.arr b s 0 n)) (hσ : σ.Perm (.arr b l e s :: τ)) (hn : n = l.length) (h : zk m P f fn K R k ((t, .lst l) :: env) τ) : zk m P f fn K R k env σ := fun p a w hi hr hnt hd => by
 have hi' := hi.perm hσ
 subst hn
 obtain ⟨g1, g2, g0, g3⟩ := hi'.ok _ (jd ..)
 have hv := hr t _ hs
 simp only [Rep] at hv
 obtain ⟨A, c, hv, hc1, hc2, hA⟩ := hv
 have step : ∀ p', zU p w p' w → Inv K p' τ w → Rep p' w (.lst l) (.slice A l.length c) → Rest m P f fn K R k a w := fun p' g hi2 hrep => h p' a w hi2 (fun t' d' ht' => by
  rw [qio] at ht'
  by_cases htt : t = t'
  · subst htt
    rw [if_pos rfl] at ht'
    injection ht' with ht'
    subst ht'
    rw [hv]
    exact hrep
  · rw [if_neg htt] at ht'
    exact (hr t' d' ht').grow g) hnt hd
 by_cases hl0 : l = []
 · subst hl0
   refine step p (zU.refl p w) hi'.tail ?_
   simp only [Rep]
   exact ⟨A, c, [], rfl, hc1, hc2, .inl rfl, zx.nil _ _, by simp⟩
 · obtain ⟨xs, junk, g3, g4, g5, g6⟩ := g3.resolve_left hl0
   have hA' := hA.resolve_left (fun h => hl0 (jB h))
   have hblk : (Ob.arr b l e s).blk = some b := by
    cases l with
    | nil => exact absurd rfl hl0
    | cons => rfl
   have hbl : b < w.heap.size := (jE.1 g5).1
   have hm := hi'.mine b (qgD.2 ⟨_, jd .., hblk⟩)
   have hnd := hi'.nd
   have hne : b ∉ yP τ := by
    simp only [yP, vC, hblk, jO] at hnd
    exact hnd.1
   have hcell : ∀ j u, xs[j]? = some u → w.cell? ⟨b, 0 + j, none⟩ = some u := fun j u hu => by
    rw [jt, cell_of_row _ _ _ _ _ _ g5]
    have := (jr.1 hu).1
    simp only [vS]
    rw [jT this]
    exact hu
   have hg := hi'.tail.give (fun a' => a'.block = b ∧ a'.spot = none ∧ a'.off < xs.length) fun a' ⟨e1, e2, e3⟩ => by
    obtain ⟨b', of, sp⟩ := a'
    simp only at e1 e2 e3
    subst e1 e2
    refine ⟨⟨xs[of], ?_⟩, hm, fun o' ho b' hb hab => ?_⟩
    · have := hcell of xs[of] (by simp)
      simpa using this
    · simp only at hab
      subst hab
      exact absurd (qgD.2 ⟨o', ho, hb⟩) hne
   refine step _ (qkb p _ w) hg ?_
   simp only [Rep]
   refine ⟨A, c, xs, rfl, hc1, hc2, .inr ⟨b, 0, by rw [hA']; simp, fun j u hu => ⟨.inr ⟨rfl, rfl, ?_⟩, hcell j u hu⟩⟩, g3.grow (qkb p _ w), g4⟩
   have := (jr.1 hu).1
   simp only
   omega
theorem qoA {t e : TypeId} {parts : Array (Nat × Operand)} {s by_ : Nat} {σ : St} (ho : o.op = .buildSlice t 0 parts) (hE : ElT P t e s by_) (hps : parts.toList = []) : zB P o ρ σ fun d' σ' => ∃ u, d' = .own u [] ∧ σ' = .row u 0 e s :: σ := fun K p a w hi h => by
 obtain ⟨i, hii, hzz⟩ := jS.1 hE.size
 have hr : (execOp a.eval o).run P w = .ok (.value (.slice (some ⟨w.heap.size, 0, none⟩) 0 0)) (w.alloc (.cells #[] e)) := by
  unfold execOp
  rw [ho]
  have : parts = #[] := j8.1 (by simpa using hps)
  subst this
  have e0 : Array.range 0 = #[] := rfl
  simp [Instr.buildSlice, run_underlying hE.1, sizeOf, typeInfo, hii, Instr.fill, newRow, e0]
 unfold Oper.wp
 rw [hr]
 obtain ⟨p', q1, q2, q3⟩ := qrv (K := K) (p := p) (σ := σ) (w := w) (cur := #[]) (e := e) (s := s) (n := 0) (cap := 0) (l := []) (xs := []) hi (by simp) (by simp) (zx.nil _ _) (by simp) rfl (jk _) (by unfold maxLen; omega)
 exact ⟨_, _, _, p', rfl, ⟨_, rfl, rfl⟩, q1, q2, q3⟩
theorem qq2 (d x : D) : zaE d [] x = x := by cases d <;> rfl
theorem qrr {t : TypeId} {x y : Operand} {n b : Nat} {σ : St} (τ : St) {d0 e : D} {ag : Bool} (ho : o.op = .store t x y) (hx : ρ x = some (.ref b 0 [])) (hy : ρ y = some e) (hw : Wk e d) (hσ : σ.Perm (.cell b d0 :: τ)) (ht : Ty P t ag n) (hn : sz d = n) (hn' : sz d0 = n) (hp : d.plain = true) : zB P o ρ σ fun _ σ' => σ' = .cell b d :: τ := by
 have h := qeM (P := P) (d := d) τ ho hx hy hw hσ (show yR d0 [] = some d0 by cases d0 <;> rfl) (by cases d0 <;> rfl) ht hn hn' hp
 rw [qq2] at h
 exact h
end
theorem qiz {m : Md} {P : Program} {X : Env → D → St → Prop} {f : FuncId} {fn : Func} {K : Ctx} {R : D → St → Prop} {k : List Item} {env : Env} {σ : St} {l : List Oper} {rest : List (Nat × Cls)} (s : Nat) (v : Bool) {b : Bool} (hs : lk env s = some (.bool b)) (hb : b = v) (h : Run P l.toArray X (zk m P f fn K R k) rest ((s, .bool v) :: env) σ) : Run P l.toArray X (zk m P f fn K R k) rest env σ := by
 subst hb
 cases b with
 | true => exact qth s hs (fun _ => h) fun h' => by cases h'
 | false => exact qth s hs (fun h' => by cases h') fun _ => h
theorem qk {m : Md} {P : Program} {f : FuncId} {fn : Func} {K : Ctx} {R : D → St → Prop} {k : List Item} {env : Env} {σ : St} (s : Nat) (v : Bool) {b : Bool} (hs : lk env s = some (.bool b)) (hb : b = v) (h : zk m P f fn K R k ((s, .bool v) :: env) σ) : zk m P f fn K R k env σ := by
 subst hb
 cases b with
 | true => exact qs6 s hs (fun _ => h) fun h' => by cases h'
 | false => exact qs6 s hs (fun h' => by cases h') fun _ => h
theorem qO {m : Md} {P : Program} {f : FuncId} {fn : Func} {K : Ctx} {R : D → St → Prop} {k : List Item} {env : Env} {σ : St} {c : Operand} {x y : Code} (hc : ev env c = some (.bool true)) (h : zk m P f fn K R (.code x :: k) env σ) : zk m P f fn K R (.code (.cond c x y) :: k) env σ := by
 cases c with
 | tmp t => exact qqr hc rfl (fun _ => h) fun h => by cases h
 | const v => exact qqr hc (by cases v <;> first | rfl | (simp [ev, zat] at hc)) (fun _ => h) fun h => by cases h
 | global g => cases hc
 | func f => cases hc
theorem qA {m : Md} {P : Program} {f : FuncId} {fn : Func} {K : Ctx} {R : D → St → Prop} {k : List Item} {env : Env} {σ : St} {c : Operand} {x y : Code} (hc : ev env c = some (.bool false)) (h : zk m P f fn K R (.code y :: k) env σ) : zk m P f fn K R (.code (.cond c x y) :: k) env σ := by
 cases c with
 | tmp t => exact qqr hc rfl (fun h => by cases h) fun _ => h
 | const v => exact qqr hc (by cases v <;> first | rfl | (simp [ev, zat] at hc)) (fun h => by cases h) fun _ => h
 | global g => cases hc
 | func f => cases hc
theorem qzu : Ty Tryz.prog 2 false 1 := ⟨⟨_, Tryz.underlying2, rfl⟩, by kernel_rfl⟩
theorem qgQ : Ty Tryz.prog 3 false 1 := ⟨⟨_, Tryz.underlying3, rfl⟩, by kernel_rfl⟩
theorem qxJ : Ty Tryz.prog 4 false 1 := ⟨⟨_, Tryz.underlying4, rfl⟩, by kernel_rfl⟩
theorem qyY : Ty Tryz.prog 5 false 1 := ⟨⟨_, Tryz.underlying5, rfl⟩, by kernel_rfl⟩
theorem qwb : Ty Tryz.prog 9 false 1 := ⟨⟨_, Tryz.underlying9, rfl⟩, by kernel_rfl⟩
theorem qvB : Ty Tryz.prog 12 false 1 := ⟨⟨_, Tryz.underlying12, rfl⟩, by kernel_rfl⟩
theorem qlt : Ty Tryz.prog 17 false 1 := ⟨⟨_, Tryz.underlying17, rfl⟩, by kernel_rfl⟩
theorem qy5 : Ty Tryz.prog 21 false 1 := ⟨⟨_, Tryz.underlying21, rfl⟩, by kernel_rfl⟩
theorem qiK : Ty Tryz.prog 28 false 1 := ⟨⟨_, Tryz.underlying28, rfl⟩, by kernel_rfl⟩
theorem qdJ : ElT Tryz.prog 28 85 3 48 := .of Tryz.underlying28 (by kernel_rfl) (by decide)
theorem qkN : Ty Tryz.prog 39 false 1 := ⟨⟨_, Tryz.underlying39, rfl⟩, by kernel_rfl⟩
theorem qam : ElT Tryz.prog 39 71 4 56 := .of Tryz.underlying39 (by kernel_rfl) (by decide)
theorem qlg : Ty Tryz.prog 73 true 2 := ⟨⟨_, Tryz.underlying73, rfl⟩, by kernel_rfl⟩
theorem qrH : Fld Tryz.prog 73 0 0 := ⟨_, _, 1, Tryz.underlying73, rfl, rfl, by kernel_rfl, by decide⟩
theorem qrh : Fld Tryz.prog 73 1 1 := ⟨_, _, 1, Tryz.underlying73, rfl, rfl, by kernel_rfl, by decide⟩
theorem qfw : zV Tryz.prog 73 [.str ⟨#[]⟩, .lst []] := .mk rfl (by kernel_rfl) Tryz.underlying73 (by kernel_rfl)
theorem qe9 : yn Tryz.prog 73 (.agg [.str ⟨#[]⟩, .lst []]) := .agg qfw
theorem qtK : Ty Tryz.prog 85 true 3 := ⟨⟨_, Tryz.underlying85, rfl⟩, by kernel_rfl⟩
theorem qq7 : Fld Tryz.prog 85 0 0 := ⟨_, _, 1, Tryz.underlying85, rfl, rfl, by kernel_rfl, by decide⟩
theorem qqJ : Fld Tryz.prog 85 1 1 := ⟨_, _, 2, Tryz.underlying85, rfl, rfl, by kernel_rfl, by decide⟩
theorem qoq : zV Tryz.prog 85 [.int .i64 0, .agg [.str ⟨#[]⟩, .lst []]] := .mk rfl (by kernel_rfl) Tryz.underlying85 (by kernel_rfl)
theorem qsG : Ty Tryz.prog 36 false 1 := ⟨⟨_, Tryz.underlying36, rfl⟩, by kernel_rfl⟩
theorem qtz : Ty Tryz.prog 60 true 2 := ⟨⟨_, Tryz.underlying60, rfl⟩, by kernel_rfl⟩
theorem qq9 : Fld Tryz.prog 60 0 0 := ⟨_, _, 1, Tryz.underlying60, rfl, rfl, by kernel_rfl, by decide⟩
theorem qrK : Fld Tryz.prog 60 1 1 := ⟨_, _, 1, Tryz.underlying60, rfl, rfl, by kernel_rfl, by decide⟩
theorem qn6 : zV Tryz.prog 60 [.str ⟨#[]⟩, .int .i64 0] := .mk rfl (by kernel_rfl) Tryz.underlying60 (by kernel_rfl)
theorem qon : yn Tryz.prog 60 (.agg [.str ⟨#[]⟩, .int .i64 0]) := .agg qn6
theorem qmz : Ty Tryz.prog 46 false 1 := ⟨⟨_, Tryz.underlying46, rfl⟩, by kernel_rfl⟩
theorem qc7 : ElT Tryz.prog 46 3 1 8 := .of Tryz.underlying46 (by kernel_rfl) (by decide)
theorem qqy : Ty Tryz.prog 29 false 1 := ⟨⟨_, Tryz.underlying29, rfl⟩, by kernel_rfl⟩
theorem qfW : ElT Tryz.prog 29 92 5 64 := .of Tryz.underlying29 (by kernel_rfl) (by decide)
theorem qnn : Ty Tryz.prog 30 false 1 := ⟨⟨_, Tryz.underlying30, rfl⟩, by kernel_rfl⟩
theorem qd4 : ElT Tryz.prog 30 92 5 64 := .of Tryz.underlying30 (by kernel_rfl) (by decide)
theorem qdC : Ty Tryz.prog 71 true 4 := ⟨⟨_, Tryz.underlying71, rfl⟩, by kernel_rfl⟩
theorem qcg : Fld Tryz.prog 71 0 0 := ⟨_, _, 1, Tryz.underlying71, rfl, rfl, by kernel_rfl, by decide⟩
theorem qcp : Fld Tryz.prog 71 1 1 := ⟨_, _, 1, Tryz.underlying71, rfl, rfl, by kernel_rfl, by decide⟩
theorem qfp : Fld Tryz.prog 71 2 2 := ⟨_, _, 1, Tryz.underlying71, rfl, rfl, by kernel_rfl, by decide⟩
theorem qcf : Fld Tryz.prog 71 3 3 := ⟨_, _, 1, Tryz.underlying71, rfl, rfl, by kernel_rfl, by decide⟩
theorem qeB : zV Tryz.prog 71 [.int .i64 0, .int .i64 0, .str ⟨#[]⟩, .lst []] := .mk rfl (by kernel_rfl) Tryz.underlying71 (by kernel_rfl)
theorem qc0 : yn Tryz.prog 71 (.agg [.int .i64 0, .int .i64 0, .str ⟨#[]⟩, .lst []]) := .agg qeB
theorem qmj : Ty Tryz.prog 41 true 3 := ⟨⟨_, Tryz.underlying41, rfl⟩, by kernel_rfl⟩
theorem qru : Fld Tryz.prog 41 0 0 := ⟨_, _, 1, Tryz.underlying41, rfl, rfl, by kernel_rfl, by decide⟩
theorem qrY : Fld Tryz.prog 41 1 1 := ⟨_, _, 1, Tryz.underlying41, rfl, rfl, by kernel_rfl, by decide⟩
theorem qqI : Fld Tryz.prog 41 2 2 := ⟨_, _, 1, Tryz.underlying41, rfl, rfl, by kernel_rfl, by decide⟩
theorem qic : zV Tryz.prog 41 [.int .i64 0, .str ⟨#[]⟩, .lst []] := .mk rfl (by kernel_rfl) Tryz.underlying41 (by kernel_rfl)
theorem qgo : yn Tryz.prog 41 (.agg [.int .i64 0, .str ⟨#[]⟩, .lst []]) := .agg qic
theorem qgF : Ty Tryz.prog 27 false 1 := ⟨⟨_, Tryz.underlying27, rfl⟩, by kernel_rfl⟩
theorem qc3 : ElT Tryz.prog 27 41 3 48 := .of Tryz.underlying27 (by kernel_rfl) (by decide)
theorem qi0 : Ty Tryz.prog 92 true 5 := ⟨⟨_, Tryz.underlying92, rfl⟩, by kernel_rfl⟩
theorem qrq : Fld Tryz.prog 92 0 0 := ⟨_, _, 1, Tryz.underlying92, rfl, rfl, by kernel_rfl, by decide⟩
theorem qrc : Fld Tryz.prog 92 1 1 := ⟨_, _, 4, Tryz.underlying92, rfl, rfl, by kernel_rfl, by decide⟩
theorem qkK : zV Tryz.prog 92 [.int .i64 0, .agg [.int .i64 0, .int .i64 0, .str ⟨#[]⟩, .lst []]] := .mk rfl (by kernel_rfl) Tryz.underlying92 (by kernel_rfl)
theorem qoE : yn Tryz.prog 92 (.agg [.int .i64 0, .agg [.int .i64 0, .int .i64 0, .str ⟨#[]⟩, .lst []]]) := .agg qkK
theorem qns : Ty Tryz.prog 149 false 1 := ⟨⟨_, Tryz.underlying149, rfl⟩, by kernel_rfl⟩
theorem qo5 : Ty Tryz.prog 151 true 1 := ⟨⟨_, Tryz.underlying151, rfl⟩, by kernel_rfl⟩
theorem qnq : Fld Tryz.prog 151 0 0 := ⟨_, _, 1, Tryz.underlying151, rfl, rfl, by kernel_rfl, by decide⟩
theorem qrC : Ty Tryz.prog 173 false 1 := ⟨⟨_, Tryz.underlying173, rfl⟩, by kernel_rfl⟩
theorem qor : Ty Tryz.prog 97 false 1 := ⟨⟨_, Tryz.underlying97, rfl⟩, by kernel_rfl⟩
theorem qAY : Ty Tryz.prog 219 false 1 := ⟨⟨_, Tryz.underlying219, rfl⟩, by kernel_rfl⟩
theorem qv0 : Ty Tryz.prog 220 false 1 := ⟨⟨_, Tryz.underlying220, rfl⟩, by kernel_rfl⟩
theorem qvE : Ty Tryz.prog 233 false 1 := ⟨⟨_, Tryz.underlying233, rfl⟩, by kernel_rfl⟩
theorem qrw : Ty Tryz.prog 22 false 1 := ⟨⟨_, Tryz.underlying22, rfl⟩, by kernel_rfl⟩
theorem qkX : ElT Tryz.prog 22 60 2 24 := .of Tryz.underlying22 (by kernel_rfl) (by decide)
theorem qqx : Ty Tryz.prog 23 false 1 := ⟨⟨_, Tryz.underlying23, rfl⟩, by kernel_rfl⟩
theorem qld : ElT Tryz.prog 23 52 6 120 := .of Tryz.underlying23 (by kernel_rfl) (by decide)
theorem qpG : Ty Tryz.prog 25 true 2 := ⟨⟨_, Tryz.underlying25, rfl⟩, by kernel_rfl⟩
theorem qnw : Fld Tryz.prog 25 0 0 := ⟨_, _, 1, Tryz.underlying25, rfl, rfl, by kernel_rfl, by decide⟩
theorem qnx : Fld Tryz.prog 25 1 1 := ⟨_, _, 1, Tryz.underlying25, rfl, rfl, by kernel_rfl, by decide⟩
theorem ql2 : zV Tryz.prog 25 [.lst [], .lst []] := .mk rfl (by kernel_rfl) Tryz.underlying25 (by kernel_rfl)
theorem qrE : Ty Tryz.prog 50 false 1 := ⟨⟨_, Tryz.underlying50, rfl⟩, by kernel_rfl⟩
theorem qdX : ElT Tryz.prog 50 73 2 40 := .of Tryz.underlying50 (by kernel_rfl) (by decide)
theorem qtu : Ty Tryz.prog 52 true 6 := ⟨⟨_, Tryz.underlying52, rfl⟩, by kernel_rfl⟩
theorem qrd : Fld Tryz.prog 52 0 0 := ⟨_, _, 1, Tryz.underlying52, rfl, rfl, by kernel_rfl, by decide⟩
theorem qqH : Fld Tryz.prog 52 1 1 := ⟨_, _, 1, Tryz.underlying52, rfl, rfl, by kernel_rfl, by decide⟩
theorem qq4 : Fld Tryz.prog 52 2 2 := ⟨_, _, 1, Tryz.underlying52, rfl, rfl, by kernel_rfl, by decide⟩
theorem qrI : Fld Tryz.prog 52 3 3 := ⟨_, _, 1, Tryz.underlying52, rfl, rfl, by kernel_rfl, by decide⟩
theorem qqF : Fld Tryz.prog 52 4 4 := ⟨_, _, 1, Tryz.underlying52, rfl, rfl, by kernel_rfl, by decide⟩
theorem qqB : Fld Tryz.prog 52 5 5 := ⟨_, _, 1, Tryz.underlying52, rfl, rfl, by kernel_rfl, by decide⟩
theorem qkG : zV Tryz.prog 52 [.str ⟨#[]⟩, .lst [], .lst [], .lst [], .lst [], .int .i64 0] := .mk rfl (by kernel_rfl) Tryz.underlying52 (by kernel_rfl)
theorem qgt : yn Tryz.prog 52 (.agg [.str ⟨#[]⟩, .lst [], .lst [], .lst [], .lst [], .int .i64 0]) := .agg qkG
theorem qrJ : Ty Tryz.prog 26 false 1 := ⟨⟨_, Tryz.underlying26, rfl⟩, by kernel_rfl⟩
theorem qmw : ElT Tryz.prog 26 55 3 48 := .of Tryz.underlying26 (by kernel_rfl) (by decide)
theorem qiT : Ty Tryz.prog 55 true 3 := ⟨⟨_, Tryz.underlying55, rfl⟩, by kernel_rfl⟩
theorem qrX : Fld Tryz.prog 55 0 0 := ⟨_, _, 1, Tryz.underlying55, rfl, rfl, by kernel_rfl, by decide⟩
theorem qro : Fld Tryz.prog 55 1 1 := ⟨_, _, 1, Tryz.underlying55, rfl, rfl, by kernel_rfl, by decide⟩
theorem qqT : Fld Tryz.prog 55 2 2 := ⟨_, _, 1, Tryz.underlying55, rfl, rfl, by kernel_rfl, by decide⟩
theorem qkV : zV Tryz.prog 55 [.str ⟨#[]⟩, .int .i64 0, .lst []] := .mk rfl (by kernel_rfl) Tryz.underlying55 (by kernel_rfl)
theorem qfZ : yn Tryz.prog 55 (.agg [.str ⟨#[]⟩, .int .i64 0, .lst []]) := .agg qkV
theorem qpU : Ty Tryz.prog 100 false 1 := ⟨⟨_, Tryz.underlying100, rfl⟩, by kernel_rfl⟩
theorem qsx : Ty Tryz.prog 102 true 2 := ⟨⟨_, Tryz.underlying102, rfl⟩, by kernel_rfl⟩
theorem qgc : Fld Tryz.prog 102 0 0 := ⟨_, _, 1, Tryz.underlying102, rfl, rfl, by kernel_rfl, by decide⟩
theorem qjY : Fld Tryz.prog 102 1 1 := ⟨_, _, 1, Tryz.underlying102, rfl, rfl, by kernel_rfl, by decide⟩
theorem qpT : Ty Tryz.prog 133 false 1 := ⟨⟨_, Tryz.underlying133, rfl⟩, by kernel_rfl⟩
theorem qlu : callee Tryz.prog 29 := ⟨_, _, Tryz.func29, rfl, by decide⟩
theorem qfD : callee Tryz.prog 44 := ⟨_, _, Tryz.func44, rfl, by decide⟩
theorem qjJ : callee Tryz.prog 98 := ⟨_, _, Tryz.func98, rfl, by decide⟩
theorem qhS : callee Tryz.prog 52 := ⟨_, _, Tryz.func52, rfl, by decide⟩
theorem qj9 : callee Tryz.prog 63 := ⟨_, _, Tryz.func63, rfl, by decide⟩
theorem qhk : callee Tryz.prog 45 := ⟨_, _, Tryz.func45, rfl, by decide⟩
theorem qfX : callee Tryz.prog 49 := ⟨_, _, Tryz.func49, rfl, by decide⟩
theorem qeJ : callee Tryz.prog 84 := ⟨_, _, Tryz.func84, rfl, by decide⟩
theorem qe0 : callee Tryz.prog 140 := ⟨_, _, Tryz.func140, rfl, by decide⟩
theorem qhs : callee Tryz.prog 128 := ⟨_, _, Tryz.func128, rfl, by decide⟩
theorem qiP : callee Tryz.prog 97 := ⟨_, _, Tryz.func97, rfl, by decide⟩
theorem qi1 : callee Tryz.prog 121 := ⟨_, _, Tryz.func121, rfl, by decide⟩
theorem qe2 : callee Tryz.prog 96 := ⟨_, _, Tryz.func96, rfl, by decide⟩
theorem qie : callee Tryz.prog 57 := ⟨_, _, Tryz.func57, rfl, by decide⟩
theorem qee : callee Tryz.prog 54 := ⟨_, _, Tryz.func54, rfl, by decide⟩
theorem qdt : callee Tryz.prog 80 := ⟨_, _, Tryz.func80, rfl, by decide⟩
theorem qkt : callee Tryz.prog 81 := ⟨_, _, Tryz.func81, rfl, by decide⟩
theorem qh7 : callee Tryz.prog 156 := ⟨_, _, Tryz.func156, rfl, by decide⟩
theorem qly : callee Tryz.prog 157 := ⟨_, _, Tryz.func157, rfl, by decide⟩
theorem qfV : callee Tryz.prog 86 := ⟨_, _, Tryz.func86, rfl, by decide⟩
theorem qeZ : callee Tryz.prog 129 := ⟨_, _, Tryz.func129, rfl, by decide⟩
theorem qhv : callee Tryz.prog 41 := ⟨_, _, Tryz.func41, rfl, by decide⟩
theorem qf5 : callee Tryz.prog 34 := ⟨_, _, Tryz.func34, rfl, by decide⟩
theorem qlq : callee Tryz.prog 115 := ⟨_, _, Tryz.func115, rfl, by decide⟩
theorem qkL : callee Tryz.prog 66 := ⟨_, _, Tryz.func66, rfl, by decide⟩
theorem qjd : callee Tryz.prog 130 := ⟨_, _, Tryz.func130, rfl, by decide⟩
theorem qfI : callee Tryz.prog 51 := ⟨_, _, Tryz.func51, rfl, by decide⟩
theorem qlp : callee Tryz.prog 4 := ⟨_, _, Tryz.func4, rfl, by decide⟩
theorem qdv : callee Tryz.prog 8 := ⟨_, _, Tryz.func8, rfl, by decide⟩
theorem qm7 : callee Tryz.prog 23 := ⟨_, _, Tryz.func23, rfl, by decide⟩
theorem qrS : callee Tryz.prog 24 := ⟨_, _, Tryz.func24, rfl, by decide⟩
theorem qgy : callee Tryz.prog 17 := ⟨_, _, Tryz.func17, rfl, by decide⟩
theorem qkE : callee Tryz.prog 6 := ⟨_, _, Tryz.func6, rfl, by decide⟩
theorem qkd : callee Tryz.prog 18 := ⟨_, _, Tryz.func18, rfl, by decide⟩
theorem qiG : callee Tryz.prog 43 := ⟨_, _, Tryz.func43, rfl, by decide⟩
theorem qen : callee Tryz.prog 42 := ⟨_, _, Tryz.func42, rfl, by decide⟩
theorem qeE : callee Tryz.prog 85 := ⟨_, _, Tryz.func85, rfl, by decide⟩
theorem qo6 : callee Tryz.prog 69 := ⟨_, _, Tryz.func69, rfl, by decide⟩
theorem qhc : callee Tryz.prog 40 := ⟨_, _, Tryz.func40, rfl, by decide⟩
theorem qci : callee Tryz.prog 22 := ⟨_, _, Tryz.func22, rfl, by decide⟩
theorem qjw : callee Tryz.prog 16 := ⟨_, _, Tryz.func16, rfl, by decide⟩
theorem qkJ : callee Tryz.prog 35 := ⟨_, _, Tryz.func35, rfl, by decide⟩
theorem qr8 : callee Tryz.prog 58 := ⟨_, _, Tryz.func58, rfl, by decide⟩
theorem qkQ : callee Tryz.prog 65 := ⟨_, _, Tryz.func65, rfl, by decide⟩
theorem qiY : callee Tryz.prog 48 := ⟨_, _, Tryz.func48, rfl, by decide⟩
theorem qgO : callee Tryz.prog 31 := ⟨_, _, Tryz.func31, rfl, by decide⟩
theorem qmC : callee Tryz.prog 15 := ⟨_, _, Tryz.func15, rfl, by decide⟩
theorem qmM : callee Tryz.prog 38 := ⟨_, _, Tryz.func38, rfl, by decide⟩
theorem qif : callee Tryz.prog 39 := ⟨_, _, Tryz.func39, rfl, by decide⟩
theorem qeU : callee Tryz.prog 76 := ⟨_, _, Tryz.func76, rfl, by decide⟩
theorem qfH : callee Tryz.prog 77 := ⟨_, _, Tryz.func77, rfl, by decide⟩
theorem qkW : callee Tryz.prog 78 := ⟨_, _, Tryz.func78, rfl, by decide⟩
theorem qgK : callee Tryz.prog 79 := ⟨_, _, Tryz.func79, rfl, by decide⟩
theorem qj3 : callee Tryz.prog 107 := ⟨_, _, Tryz.func107, rfl, by decide⟩
theorem qhG : callee Tryz.prog 108 := ⟨_, _, Tryz.func108, rfl, by decide⟩
theorem qgu : callee Tryz.prog 53 := ⟨_, _, Tryz.func53, rfl, by decide⟩
theorem qiW : callee Tryz.prog 109 := ⟨_, _, Tryz.func109, rfl, by decide⟩
theorem qlD : callee Tryz.prog 110 := ⟨_, _, Tryz.func110, rfl, by decide⟩
theorem qjh : callee Tryz.prog 12 := ⟨_, _, Tryz.func12, rfl, by decide⟩
theorem qiv : callee Tryz.prog 68 := ⟨_, _, Tryz.func68, rfl, by decide⟩
theorem qo7 : callee Tryz.prog 102 := ⟨_, _, Tryz.func102, rfl, by decide⟩
theorem qgY : callee Tryz.prog 36 := ⟨_, _, Tryz.func36, rfl, by decide⟩
theorem qpC : callee Tryz.prog 37 := ⟨_, _, Tryz.func37, rfl, by decide⟩
theorem qlG : callee Tryz.prog 67 := ⟨_, _, Tryz.func67, rfl, by decide⟩
theorem qjA : callee Tryz.prog 70 := ⟨_, _, Tryz.func70, rfl, by decide⟩
theorem qgT : callee Tryz.prog 106 := ⟨_, _, Tryz.func106, rfl, by decide⟩
theorem qhi : callee Tryz.prog 32 := ⟨_, _, Tryz.func32, rfl, by decide⟩
theorem qeY : callee Tryz.prog 13 := ⟨_, _, Tryz.func13, rfl, by decide⟩
theorem qi7 : callee Tryz.prog 101 := ⟨_, _, Tryz.func101, rfl, by decide⟩
theorem qf7 : callee Tryz.prog 33 := ⟨_, _, Tryz.func33, rfl, by decide⟩
mutual
def fsT : T → List D
 | .mk k i s ar => [.int .i64 k, .int .i64 i, .str s, .lst (zaA ar)]
def zaA : List T → List D
 | [] => []
 | t :: ts => .agg (fsT t) :: zaA ts
end
abbrev zi (t : T) : D := .agg (fsT t)
theorem qnF : ∀ (ts : List T), zaA ts = ts.map zi
 | [] => rfl
 | t :: ts => by rw [zaA, qnF ts]; rfl
theorem qdQ (t : T) : fsT t = [.int .i64 t.k, .int .i64 t.i, .str t.s, .lst (t.ar.map zi)] := by
 cases t; simp only [fsT, qnF, T.k, T.i, T.s, T.ar]
theorem qfr (t : T) : (fsT t)[0]? = some (.int .i64 t.k) := by rw [qdQ]; rfl
theorem qfy (t : T) : (fsT t)[1]? = some (.int .i64 t.i) := by rw [qdQ]; rfl
theorem qla (t : T) : (fsT t)[2]? = some (.str t.s) := by rw [qdQ]; rfl
theorem qgi (t : T) : (fsT t)[3]? = some (.lst (t.ar.map zi)) := by rw [qdQ]; rfl
theorem qfs (t : T) : szs ((fsT t).take 0) = 0 := by rw [qdQ]; rfl
theorem qfz (t : T) : szs ((fsT t).take 1) = 1 := by rw [qdQ]; rfl
theorem qlh (t : T) : szs ((fsT t).take 2) = 2 := by rw [qdQ]; rfl
theorem qgf (t : T) : szs ((fsT t).take 3) = 3 := by rw [qdQ]; rfl
theorem qcl (t : T) : sz (zi t) = 4 := by rw [zi, qdQ]; rfl
theorem qmZ (t : T) : szs (fsT t) = 4 := by rw [qdQ]; rfl
def zX (a : At) : D := .agg [.str a.n, .lst (a.ts.map zi)]
def zA (g : Gl) : D := .agg [.int .i64 g.op, .str g.n, .lst (g.ts.map zi)]
def zo (x : Int × T) : D := .agg [.int .i64 x.1, zi x.2]
theorem qft (x : Int × T) : sz (zo x) = 5 := by
 show 1 + (sz (zi x.2) + 0) = 5
 rw [qcl]
/-! ### to the elder layouts -/
section
variable {p : Addr → Prop} {w : World}
mutual
theorem qBl : ∀ (t : T) (v : Value), Rep p w (zi t) v → ∃ cs, v = .agg cs.toArray ∧ CT w t cs
 | .mk k i s ar, v, h => by
  simp only [Rep, fsT] at h
  obtain ⟨cs, rfl, h, _⟩ := h
  simp only [zx, Rep] at h
  obtain ⟨v1, _, rfl, ⟨rfl, hk⟩, v2, _, rfl, ⟨rfl, hi⟩, v3, _, rfl, ⟨rfl, hs⟩, v4, _, rfl, ⟨A, c, xs, rfl, hl, hc, hr, hrs, _⟩, rfl⟩ := h
  rw [show (zaA ar).length = ar.length by rw [qnF]; simp] at hl ⊢
  refine ⟨_, rfl, ?_⟩
  simp only [CT]
  have hk' := qlS hk
  have hi' := qlS hi
  exact ⟨A, c, xs, by simp [Value.cells], ⟨by unfold I64; omega, by unfold I64; omega, hs, hl, hc⟩, hr.rd, qAR ar xs hrs⟩
theorem qAR : ∀ (ts : List T) (xs : List Value), zx p w (zaA ts) xs → CL w ts xs
 | [], xs, h => by simpa only [zaA, zx, CL] using h
 | t :: ts, xs, h => by
  simp only [zaA, zx] at h
  obtain ⟨v, rest, rfl, h1, h2⟩ := h
  obtain ⟨cs, rfl, h3⟩ := qBl t v h1
  simpa [Value.cells] using CL.cons h3 (qAR ts rest h2)
end
theorem qw6 {t : T} {v : Value} (h : Rep p w (zi t) v) : VT w t v := qBl t v h
theorem qBe {ts : List T} {v : Value} (h : Rep p w (.lst (ts.map zi)) v) : SlT w ts v := by
 simp only [Rep] at h
 obtain ⟨A, c, xs, rfl, h2, h3, h4, h5, _⟩ := h
 simp only [jb] at h2 ⊢
 exact ⟨A, c, xs, rfl, h2, h3, h4.rd, qAR ts xs (by rw [qnF]; exact h5)⟩
theorem qzt {a : At} {v : Value} (h : Rep p w (zX a) v) : VA w a v := by
 simp only [zX, Rep, zx] at h
 obtain ⟨cs, rfl, ⟨v1, _, rfl, ⟨rfl, hs⟩, v2, _, rfl, h2, rfl⟩, _⟩ := h
 have h3 := qBe (ts := a.ts) (by simpa only [Rep] using h2)
 obtain ⟨A, c, xs, rfl, _⟩ := h2
 exact ⟨_, rfl, _, by simp [Value.cells], h3, hs⟩
theorem qAW {g : Gl} {v : Value} (h : Rep p w (zA g) v) : VG w g v := by
 simp only [zA, Rep, zx] at h
 obtain ⟨cs, rfl, ⟨v0, _, rfl, ⟨rfl, ho⟩, v1, _, rfl, ⟨rfl, hs⟩, v2, _, rfl, h2, rfl⟩, _⟩ := h
 have h3 := qBe (ts := g.ts) (by simpa only [Rep] using h2)
 obtain ⟨A, c, xs, rfl, _⟩ := h2
 have ho' := qlS ho
 exact ⟨_, rfl, _, by simp [Value.cells], h3, by unfold I64; omega, hs⟩
end
section
variable {p : Addr → Prop} {w : World}
theorem zbJ {d : D} {vs : List Value} (h : zG p w [d] vs) : ∃ v, vs = [v] ∧ Rep p w d v := by
 simp only [zG] at h
 obtain ⟨v, _, rfl, h1, rfl⟩ := h
 exact ⟨v, rfl, h1⟩
theorem repl2 {d e : D} {vs : List Value} (h : zG p w [d, e] vs) : ∃ v u, vs = [v, u] ∧ Rep p w d v ∧ Rep p w e u := by
 simp only [zG] at h
 obtain ⟨v, _, rfl, h1, u, _, rfl, h2, rfl⟩ := h
 exact ⟨v, u, rfl, h1, h2⟩
end
theorem zaz {P : Program} {f : FuncId} {d : D} {b : Bool} (h : ∀ (p : Addr → Prop) (w : World) (v : Value), Rep p w d v → Calls P f #[v] w (Ret w (Is (.bool b)))) : zf P f [d] (.bool b) :=
 qlF (v := .bool b) (fun p w => by simp only [Rep]) fun p w vs _ hv => by
  obtain ⟨v, rfl, h1⟩ := zbJ hv
  exact h p w v h1
theorem zbA {P : Program} {f : FuncId} {d e : D} {b : Bool} (h : ∀ (p : Addr → Prop) (w : World) (v u : Value), Rep p w d v → Rep p w e u → Calls P f #[v, u] w (Ret w (Is (.bool b)))) : zf P f [d, e] (.bool b) :=
 qlF (v := .bool b) (fun p w => by simp only [Rep]) fun p w vs _ hv => by
  obtain ⟨v, u, rfl, h1, h2⟩ := repl2 hv
  exact h p w v u h1 h2
theorem zbg {P : Program} {f : FuncId} {d : D} {n : Int} (hn : IntKind.i64.wrap n = n) (h : ∀ (p : Addr → Prop) (w : World) (v : Value), Rep p w d v → Calls P f #[v] w (Ret w (Is (.int .i64 n)))) : zf P f [d] (.int .i64 n) :=
 qlF (v := .int .i64 n) (fun p w => by simp only [Rep]; exact ⟨trivial, hn⟩) fun p w vs _ hv => by
  obtain ⟨v, rfl, h1⟩ := zbJ hv
  exact h p w v h1
theorem qsZ (n : Nat) (hM : n ≤ 1000000000) (t : T) (hn : wt t ≤ n) : zf Tryz.prog 80 [zi t] (.bool (zM t)) := zaz fun _ w v h => qnm n hM t v w hn (qw6 h)
theorem qvw (n : Nat) (hM : n ≤ 1000000000) (t u : T) (hn : wt t ≤ n) : zf Tryz.prog 140 [zi t, zi u] (.bool (yO t u)) := zbA fun _ w v x h k => qtQ n hM t u v x w hn (qw6 h) (qw6 k)
theorem qm1 (n : Nat) (hM : n ≤ 1000000000) (a : At) (hn : wtL a.ts ≤ n) : zf Tryz.prog 57 [zX a] (.bool (zn a)) := zaz fun _ w v h => qrf n hM a v w hn (qzt h)
theorem qnN (n : Nat) (hM : n ≤ 1000000000) (a : At) (hn : wtL a.ts ≤ n) : zf Tryz.prog 54 [zX a] (.bool (zn a)) := zaz fun _ w v h => qlk n hM a v w hn (qzt h)
theorem qoU (n : Nat) (hM : n ≤ 1000000000) (a : Gl) (hn : wtL a.ts ≤ n) : zf Tryz.prog 22 [zA a] (.bool (zz a)) := zaz fun _ w v h => qnt n hM a v w hn (qAW h)
theorem qpf (n : Nat) (hM : n ≤ 1000000000) (a b : Gl) (hn : wtL a.ts ≤ n) : zf Tryz.prog 121 [zA a, zA b] (.bool (yZ a b)) := zbA fun _ w v x h k => qnX n hM a b v x w hn (qAW h) (qAW k)
theorem qtb (s : ByteArray) (hs : s.size ≤ 9223372036854775807) : zf Tryz.prog 41 [.str s] (.bool (zF s)) := zaz fun _ w v h => by
 simp only [Rep] at h
 rw [h.1]
 have := ql7 s (Lib.hid hs) w
 refine this.mono ?_
 rintro e w' ⟨rfl, rfl⟩
 exact Ret.mk rfl (Ext.rfl' _)
abbrev encI (l : List Int) : D := .lst (l.map (D.int .i64))
def RowI (base : Nat) (l : List Int) (v : Value) (w : World) : Prop := zaC base 3 1 l.length (l.map (Value.int .i64)) v w
theorem qu7 {w : World} {base base' : Nat} {e : TypeId} {size n : Nat} {v : Value} {xs : List Value} (h : w.ownsRow base e size v n xs) (hb : base' ≤ base) : w.ownsRow base' e size v n xs := by
 refine ⟨h.1, ?_⟩
 rcases h.2 with h3 | ⟨g, cap, cur, hv, hg, h4⟩
 · exact .inl h3
 · exact .inr ⟨g, cap, cur, hv, by omega, h4⟩
theorem qvp (d : Nat) (hd : d ≤ 1000000000) (ts : List T) (sv : Value) (w : World) (g : Nat) (hg : w.heap.size = g) (hn : wtL ts ≤ d) (hs : SlT w ts sv) :
 Calls Tryz.prog 71 #[.func (.func 103) #[] #[.pointer (some ⟨g, 0, none⟩)]] (w.alloc (.cells #[sv] 39)) (Ret w (RowI w.heap.size (yj [] (zw ts)))) := by
 subst hg
 exact (qyB d hd ts sv w.heap.size _ hn (Boxed.new w _ _).cell (hs.ext ((Ext.rfl' w).al _))).mono fun _ _ ⟨v, h1, ⟨A, c, h2, h4⟩, h3⟩ => ⟨v, h1, ⟨A, c, h2, qu7 h4 (by simp)⟩, ((Ext.rfl' w).al _).tr h3⟩
theorem qsY (d : Nat) (hd : d ≤ 1000000000) (a : At) (v : Value) (w : World) (hn : wtL a.ts ≤ d) (hv : VA w a v) : Calls Tryz.prog 40 #[v] w (Ret w (RowI w.heap.size (yj [] (zw a.ts)))) := by
 obtain ⟨sl, rfl, hs, -⟩ := hv.open_
 have hs' := zQ hs
 obtain ⟨A, c, xs, rfl, -⟩ := hs
 clear hv
 go_enter Tryz.func40, Tryz.ntmps40
 go_wp2_with fail
 refine (qyE _ _ A a.ts.length c rfl).mono ?_
 rintro e w1 ⟨rfl, rfl⟩
 go_wp2_with fail
 refine (qvp d hd a.ts _ _ _ (by simp) hn (SlT.ext (ze hs') ((Ext.rfl' w).al _))).mono ?_
 rintro e w2 ⟨v, rfl, hr, he⟩
 have he := zQ he
 obtain ⟨A2, c2, rfl, hr⟩ := hr
 have hr := zQ (qu7 hr (show w.heap.size ≤ _ by simp))
 go_wp2
 go_ret
 exact Ret.mk ⟨A2, c2, rfl, ze hr⟩ (((Ext.rfl' w).al _).tr (ze he))
theorem qss {P : Program} {f : FuncId} {ds : List D} {l : List Int} (h : ∀ (p : Addr → Prop) (w : World) (vs : List Value), zG p w ds vs → (∀ x ∈ l, I64 x) ∧ Calls P f vs.toArray w (Ret w (RowI w.heap.size l))) : zf P f ds (encI l) := fun w p vs hi hv => by
 obtain ⟨hI, hc⟩ := h p w vs hv
 refine hc.mono fun e w' hr => ?_
 obtain ⟨v, rfl, ⟨A, c, rfl, ho⟩, he⟩ := hr
 have hcell : ∀ a, p a → w'.cell? a = w.cell? a := fun a ha => by
  obtain ⟨u, hu⟩ := hi.pub a ha
  exact (he.cellOf hu).trans hu.symm
 have hreps : ∀ (q : Addr → Prop) (m : List Int), (∀ x ∈ m, I64 x) → zx q w' (m.map (D.int .i64)) (m.map (Value.int .i64)) := fun q m => by
  induction m with
  | nil => exact fun _ => zx.nil _ _
  | cons x m ih =>
   intro hx
   have := hx x (jd ..)
   have h1 : Rep q w' (.int .i64 x) (.int .i64 x) := by
    simp only [Rep]
    exact ⟨trivial, wrap64 (by unfold I64 at this; omega)⟩
   simpa [Value.cells] using zx.cons h1 (ih fun y hy => hx y (je _ hy))
 have hones : ∀ u ∈ l.map (Value.int .i64), u.oneCell' = true := fun u hu => by
  obtain ⟨x, _, rfl⟩ := jA.1 hu
  rfl
 -- what is given out: the row
 refine .inl ⟨_, encI l, [], fun a => p a ∨ (w.heap.size ≤ a.block ∧ a.spot = none ∧ ∃ u, w'.cell? a = some u), rfl, rfl, ?_, ?_⟩
 · simp only [Rep, jb]
   have hlen := ho.1
   rcases ho.2 with ⟨h1, h2⟩ | ⟨g, cap, cur, h1, h2, h3, h4, h5, h6, h7⟩
   · injection h1 with h1 h8 h9
     subst h1 h9
     have : l = [] := jB h8
     subst this
     exact ⟨none, 0, [], rfl, by simp, by omega, .inl rfl, zx.nil _ _, by simp⟩
   · injection h1 with h1 h8 h9
     subst h1 h9
     refine ⟨_, c, l.map (Value.int .i64), rfl, h4, by unfold maxLen at h5; omega, .inr ⟨g, 0, rfl, fun j u hu => ?_⟩, hreps _ l hI, hones⟩
     have hu' : w'.cell? ⟨g, 0 + j, none⟩ = some u := by
      rw [jt, cell_of_row _ _ _ _ _ _ h3]
      rw [← h7, j4] at hu
      split at hu
      · simpa using hu
      · cases hu
     exact ⟨.inr ⟨h2, rfl, u, hu'⟩, hu'⟩
 · exact { ok := fun o ho => (by cases ho), nd := List.nodup_nil, mine := fun b hb => (by cases hb), pub := fun a ha => (by
    rcases ha with ha | ⟨_, _, u, hu⟩
    · obtain ⟨u, hu⟩ := hi.pub a ha
      exact ⟨u, he.cellOf hu⟩
    · exact ⟨u, hu⟩), gr := fun a ha => ⟨.inl ha, hcell a ha⟩, neu := fun a ha => ha.elim .inl fun h => .inr (.inl h.1), os := he.os, tape := he.tape, output := he.output, size := he.size, block := fun b hb _ => he.block b hb }
theorem qxV {w : World} {l : List T} {v : Value} (h : SlT w l v) : ∀ x ∈ yj [] (zw l), I64 x := fun x hx => by
 obtain ⟨A, c, xs, _, _, _, _, h5⟩ := h
 exact qrW l xs h5 x (by simpa using qkM.1 hx)
theorem qnr (n : Nat) (hM : n ≤ 1000000000) (a : At) (hn : wtL a.ts ≤ n) : zf Tryz.prog 40 [zX a] (encI (yj [] (zw a.ts))) := qss fun p w vs h => by
 obtain ⟨v, rfl, h'⟩ := zbJ h
 obtain ⟨sl, _, hs, _⟩ := (qzt h').open_
 exact ⟨qxV hs, qsY n hM a v w hn (qzt h')⟩
end Go.Proofs.YtlfcjfiecoapoaaGreat
namespace Go.Proofs.YtlfcjfiecoapoaaGreat
set_option maxRecDepth 100000
open Go.ChangeShapes Go.WideShapes Go.ChangeAt Go.RowKit
def live (w : World) (a : Addr) : Prop := ∃ v, w.cell? a = some v
theorem qxd {w w' : World} (e : Ext w w') : zU (live w) w (live w') w' := fun _ ⟨v, hv⟩ => ⟨⟨v, e.cellOf hv⟩, by rw [hv]; exact e.cellOf hv⟩
def Op (t : TypeId) (n : Nat) (S : D → Prop) : Prop := ∀ (H : Type) (enc : TypeId × Value → H) (W : World) (base : Nat) (sp : Nat → Bool) (hd : Bool) (fuel : Nat) (cs : List Value) (x : DataW H × List MemPlace),
 DataW.trod enc Tryz.prog W base sp hd fuel t cs = some x → ∃ d v, S d ∧ d.plain = true ∧ sz d = n ∧ Rep (live W) W d v ∧ cs = v.cells.toList
theorem Op.to {t : TypeId} {n : Nat} {S S' : D → Prop} (h : Op t n S) (k : ∀ d, S d → S' d) : Op t n S' := fun H enc W base sp hd fuel cs x hx => by
 obtain ⟨d, v, h1, h2⟩ := h H enc W base sp hd fuel cs x hx
 exact ⟨d, v, k d h1, h2⟩
theorem qBA {t : TypeId} (ht : (Tryz.prog).underlying t = some (.int .i64)) : Op t 1 fun d => ∃ n, d = .int .i64 n := fun H enc W base sp hd fuel cs x hx => by
 obtain ⟨k, rfl, _, w0⟩ := DataW.trod_int ht hx
 have := qB9 w0
 refine ⟨.int .i64 k, .int .i64 k, ⟨k, rfl⟩, rfl, rfl, ?_, by simp [Value.cells]⟩
 simp only [Rep]
 exact ⟨trivial, wrap64 (by unfold I64 at this; omega)⟩
theorem qAb {t : TypeId} (ht : (Tryz.prog).underlying t = some .bool) : Op t 1 fun d => ∃ b, d = .bool b := fun H enc W base sp hd fuel cs x hx => by
 obtain ⟨b, rfl, _⟩ := DataW.trod_bool ht hx
 refine ⟨.bool b, .bool b, ⟨b, rfl⟩, rfl, rfl, ?_, by simp [Value.cells]⟩
 simp only [Rep]
def Fits : List (D → Prop) → List D → Prop
 | [], [] => True
 | S :: ss, d :: ds => S d ∧ Fits ss ds
 | _, _ => False
def tight (P : Program) : Nat → List Field → Bool
 | _, [] => true
 | o, f :: fs => f.offset == o && tight P (o + P.cellsOf f.type) fs
theorem qoC {p : Addr → Prop} {w : World} : ∀ {ds : List D} {cs : List Value}, zx p w ds cs → (∀ d ∈ ds, d.plain = true) → ∀ u ∈ cs, u.oneCell' = true
 | [], cs, h, _, u, hu => by simp only [zx] at h; subst h; simp at hu
 | d :: ds, cs, h, hp, u, hu => by
  simp only [zx] at h
  obtain ⟨v, rest, rfl, h1, h2⟩ := h
  rcases jn.1 hu with hu | hu
  · exact h1.one (hp d (jd ..)) u hu
  · exact qoC h2 (fun e he => hp e (je _ he)) u hu
def total (P : Program) : List Field → Nat
 | [] => 0
 | f :: fs => P.cellsOf f.type + total P fs
def layD (n : Nat) (hn : 0 < n) (S : D → Prop) : Lay D where
 C := fun w d cs => S d ∧ d.plain = true ∧ sz d = n ∧ ∃ v, Rep (live w) w d v ∧ cs = v.cells.toList
 n := n
 pos := hn
 ext := fun ⟨h1, h2, h3, v, h4, h5⟩ e => ⟨h1, h2, h3, v, h4.grow (qxd e), h5⟩
 len := fun ⟨_, _, h3, v, h4, h5⟩ => by rw [h5, ← h3, ← h4.sz]; simp
 one := fun ⟨_, h2, _, v, h4, h5⟩ u hu => by subst h5; exact h4.one h2 u hu
theorem qwO {n : Nat} {hn : 0 < n} {S : D → Prop} {w : World} : ∀ {l : List D} {xs : List Value}, (layD n hn S).Ls w l xs → (∀ d ∈ l, S d ∧ d.plain = true) ∧ zx (live w) w l xs
 | [], xs, h => by
  have h : xs = [] := h
  subst h
  exact ⟨by simp, zx.nil _ _⟩
 | d :: l, xs, ⟨cs, ys, h1, ⟨g1, g2, _, v, g4, g5⟩, h3⟩ => by
  obtain ⟨k1, k2⟩ := qwO h3
  subst h1 g5
  refine ⟨?_, zx.cons g4 k2⟩
  intro e he
  rcases jh.1 he with rfl | he
  · exact ⟨g1, g2⟩
  · exact k1 e he
theorem qA6 {w : World} {A : Option Addr} {xs : List Value} (h : Rd w A xs) : RdP (live w) w A xs := by
 rcases h with h | ⟨ad, rfl, hc⟩
 · exact .inl h
 · by_cases he : xs = []
   · exact .inl he
   · have hlen : 0 < xs.length := List.length_pos_iff.2 he
     have hsp : ad.spot = none := by
      have := qn1 (hc 0 _ (jq hlen))
      simpa [Addr.add] using this
     obtain ⟨b, o, sp⟩ := ad
     simp only at hsp
     subst hsp
     refine .inr ⟨b, o, rfl, fun j u hu => ?_⟩
     have h1 : w.cell? ⟨b, o + j, none⟩ = some u := by have := hc j u hu; rwa [qrV] at this
     exact ⟨⟨u, h1⟩, h1⟩
theorem quP {α : Type} {f : α → D} : ∀ {l : List D}, (∀ x ∈ l, ∃ a, x = f a) → ∃ av : List α, l = av.map f
 | [], _ => ⟨[], rfl⟩
 | d :: l, h => by
  obtain ⟨a, rfl⟩ := h d (jd ..)
  obtain ⟨av, rfl⟩ := quP fun x hx => h x (je _ hx)
  exact ⟨a :: av, rfl⟩
/-! ### terms -/
/-! ### a law's arguments -/
def Cl (t : TypeId) (S : D → Prop) : Prop := ∀ (W : World) (b : Nat) (v : Value), Value.okWide Tryz.prog W .any b t v → ∀ d, S d → v = z8 d v.cells.toList
theorem Cl.to {t : TypeId} {S S' : D → Prop} (h : Cl t S') (k : ∀ d, S d → S' d) : Cl t S := fun W b v hv d hd => h W b v hv d (k d hd)
theorem qsk {t : TypeId} {fs : Array Field} (ht : (Tryz.prog).underlying t = some (.struct fs)) : Cl t fun d => ∃ ds, d = .agg ds := fun W b v hv d ⟨ds, hd⟩ => by
 obtain ⟨cs, rfl, _⟩ := okWide_struct ht hv
 subst hd
 simp [Value.cells, z8]
theorem qza {t e : TypeId} (ht : (Tryz.prog).underlying t = some (.slice e)) : Cl t fun d => ∃ l, d = .lst l := fun W b v hv d ⟨l, hd⟩ => by
 obtain ⟨a, n, c, rfl⟩ := okWide_slice ht hv
 subst hd
 simp [Value.cells, z8]
end Go.Proofs.YtlfcjfiecoapoaaGreat
namespace Go.Proofs.YtlfcjfiecoapoaaGreat
set_option maxRecDepth 100000
open Go.RowKit
theorem qsi (n : Nat) (hM : n ≤ 1000000000) (t : T) (hn : wt t ≤ n) : zf Tryz.prog 58 [zi t] (.int .i64 (zl t : Nat)) := zbg (wrap64 (by have := qm5 t; omega)) fun _ w v h => qut n t v w hn hM (qw6 h)
theorem qvb (n : Nat) (hM : n ≤ 1000000000) (t : T) (hn : wt t ≤ n) : zf Tryz.prog 34 [zi t] (.int .i64 (zl t : Nat)) := zbg (wrap64 (by have := qm5 t; omega)) fun _ w v h => qk2 n t v w hn hM (qw6 h)
open Classical in
noncomputable def yv (v : Value) : List MapEntry → Nat → Option (Nat × Value)
 | [], _ => none
 | e :: es, i => if e.key = v then some (i, e.val) else yv v es (i + 1)
structure zaD (P : Program) (kt : TypeId) {α : Type} (key : α → D) (vk : α → Value) (d : Value → Prop) : Prop where
 rep : ∀ (p : Addr → Prop) (w : World) (a : α) (v : Value), Rep p w (key a) v → v = vk a
 good : ∀ (p : Addr → Prop) (w : World) (a : α) (v : Value), Rep p w (key a) v → d v
 inj : ∀ a b, vk a = vk b → a = b
 check : ∀ (w : World) (em : Bool) (v : Value), d v → (Instr.checkKey em 10000 kt v).run P w = .ok () w
 find : ∀ (w : World) (v : Value) (es : List MapEntry), d v → (∀ e ∈ es, d e.key) → (Instr.findKey kt v es).run P w = .ok (yv v es 0) w
 stays : ∀ (w : World) (v : Value), d v → (Instr.keyThatStays v v).run P w = .ok v w
theorem qmv {d : TypeDesc} {k : Value} (hk : MapKept.IsKey d k) : ∀ (es : List MapEntry) (i : Nat), (∀ e ∈ es, MapKept.IsKey d e.key) → Instr.findNow d k es i = some (yv k es i)
 | [], i, _ => rfl
 | e :: es, i, h => by
  obtain ⟨b, hb, hiff⟩ := MapKept.sameNow_of_keys hk (h e (jd ..))
  simp only [Instr.findNow, hb, yv]
  cases b with
  | true => rw [if_pos (hiff.1 rfl).symm]
  | false =>
   rw [if_neg fun e => by have := hiff.2 e.symm; cases this]
   exact qmv hk es (i + 1) fun x hx => h x (je _ hx)
theorem qvd {P : Program} {kt : TypeId} {d : TypeDesc} {α : Type} {key : α → D} {vk : α → Value} (h : P.underlying kt = some d) (h1 : ∀ (p : Addr → Prop) (w : World) (a : α) (v : Value), Rep p w (key a) v → v = vk a) (h2 : ∀ a, MapKept.IsKey d (vk a)) (h3 : ∀ a b, vk a = vk b → a = b) : zaD P kt key vk (MapKept.IsKey d) :=
 ⟨h1, fun p w a v hv => by rw [h1 p w a v hv]; exact h2 a, h3, fun w em v hv => MapKept.run_checkKey h hv em 9999, fun w v es hv he => MapKept.run_findKey h (qmv hv es 0 he), fun w v hv => MapKept.run_keyThatStays hv⟩
theorem yI {P : Program} {kt : TypeId} {k : IntKind} (h : P.underlying kt = some (.int k)) : zaD P kt (fun n : Int => D.int k n) (fun n => .int k n) (MapKept.IsKey (.int k)) :=
 qvd h (fun p w a v hv => by simp only [Rep] at hv; exact hv.1) (fun a => rfl) fun a b e => by injection e
theorem qlE {α : Type} {P : Program} {kt : TypeId} {key : α → D} {vk : α → Value} {d : Value → Prop} (hK : zaD P kt key vk d) {p : Addr → Prop} {w : World} : ∀ {l : List (α × D)} {es : List MapEntry}, zZ p w (l.map fun q => (key q.1, q.2)) es → ∀ e ∈ es, d e.key
 | [], es, h, e, he => by
  simp only [vb, zZ] at h
  subst h
  cases he
 | r :: l, es, h, e, he => by
  simp only [jl, zZ] at h
  obtain ⟨e0, rest, rfl, h1, h2, h3⟩ := h
  rcases jh.1 he with rfl | he
  · exact hK.good _ _ _ _ h1
  · exact qlE hK h3 e he
section
variable {α : Type} [DecidableEq α]
abbrev za8 (key : α → D) (l : List (α × D)) : List (D × D) := l.map fun q => (key q.1, q.2)
def zao : List (α × D) → α → Option D
 | [], _ => none
 | q :: l, x => if q.1 = x then some q.2 else zao l x
def zaX : List (α × D) → α → D → List (α × D)
 | [], x, d => [(x, d)]
 | q :: l, x, d => if q.1 = x then (x, d) :: l else q :: zaX l x d
theorem quL : ∀ (l : List (α × D)) (x : α) (d : D), (zaX l x d).length ≤ l.length + 1
 | [], x, d => by simp [zaX]
 | q :: l, x, d => by
  unfold zaX
  split
  · simp
  · have := quL l x d
    simp only [jg]
    omega
theorem qoF {P : Program} {kt : TypeId} {key : α → D} {vk : α → Value} {d : Value → Prop} (hK : zaD P kt key vk d) (p : Addr → Prop) (w : World) (x : α) (dd : D) : ∀ (l : List (α × D)) (es : List MapEntry) (i : Nat), zZ p w (za8 key l) es →
 (yv (vk x) es i = none ∧ zao l x = none ∧ zaX l x dd = l ++ [(x, dd)]) ∨
 ∃ j e dv, yv (vk x) es i = some (i + j, e.val) ∧ es[j]? = some e ∧ e.key = vk x ∧ zao l x = some dv ∧ Rep p w dv e.val ∧ ∀ (q : Addr → Prop) (u : World) (e' : MapEntry), zU p w q u → Rep q u (key x) e'.key → Rep q u dd e'.val → zZ q u (za8 key (zaX l x dd)) (es.set j e')
 | [], es, i, h => by
  simp only [za8, vb, zZ] at h
  subst h
  exact .inl ⟨rfl, rfl, rfl⟩
 | r :: l, es, i, h => by
  simp only [za8, jl, zZ] at h
  obtain ⟨e, rest, rfl, h1, h2, h3⟩ := h
  have hk := hK.rep _ _ _ _ h1
  by_cases hx : r.1 = x
  · refine .inr ⟨0, e, r.2, by simp [yv, hk, hx], rfl, by rw [hk, hx], by simp [zao, hx], h2, fun q u e' g q1 q2 => ?_⟩
    simp only [zaX, if_pos hx, za8, jl, zZ, jD]
    exact ⟨e', rest, rfl, q1, q2, h3.grow g⟩
  · have hne : e.key ≠ vk x := fun e' => hx (hK.inj _ _ (by rw [← hk]; exact e'))
    rcases qoF hK p w x dd l rest (i + 1) h3 with ⟨q1, q2, q3⟩ | ⟨j, e2, dv, q1, q2, q3, q4, q5, q6⟩
    · exact .inl ⟨by simp [yv, hne, q1], by simp [zao, hx, q2], by simp [zaX, hx, q3]⟩
    · refine .inr ⟨j + 1, e2, dv, by simp [yv, hne, q1]; omega, by simpa using q2, q3, by simp [zao, hx, q4], q5, fun q u e' g r1 r2 => ?_⟩
      simp only [zaX, if_neg hx, za8, jl, zZ, jC]
      exact ⟨e, _, rfl, h1.grow g, h2.grow g, q6 q u e' g r1 r2⟩
theorem qsV {p : Addr → Prop} {w : World} : ∀ {l m : List (D × D)} {es fs : List MapEntry}, zZ p w l es → zZ p w m fs → zZ p w (l ++ m) (es ++ fs)
 | [], m, es, fs, h, k => by simp only [zZ] at h; subst h; simpa using k
 | r :: l, m, es, fs, h, k => by
  obtain ⟨a, b⟩ := r
  simp only [zZ] at h
  obtain ⟨e, rest, rfl, h1, h2, h3⟩ := h
  simp only [jz, zZ]
  exact ⟨e, _, rfl, h1, h2, qsV h3 k⟩
variable {P : Program} {o : Oper} {ρ : Operand → Option D}
theorem qwU {t : TypeId} {σ : St} (ho : o.op = .makeMap t none) : zB P o ρ σ fun d' σ' => ∃ r, d' = .map r ∧ σ' = .map r [] :: σ := fun K p a w hi h => by
 have hr : (execOp a.eval o).run P w = .ok (.value (.map (some w.heap.size))) (w.alloc (.map #[] 0)) := by
  unfold execOp
  rw [ho]
  simp [Instr.makeMap]
 unfold Oper.wp
 rw [hr]
 refine ⟨_, .map w.heap.size, _, p, rfl, ⟨w.heap.size, rfl, rfl⟩, by simp only [Rep], ?_, qfM hi.pub _⟩
 refine (hi.alloc _).more ⟨#[], 0, heap_alloc_new w _, by simp only [zZ], by simp, by simp, by simp⟩ fun b hb => ?_
 simp only [Ob.blk, Option.some.injEq] at hb
 subst hb
 exact ⟨.inl hi.size, fun hm => by have := hi.lt hm; omega⟩
theorem qtj {t kt e : TypeId} {x y v : Operand} {key : α → D} {vk : α → Value} {d : Value → Prop} {r : Nat} {l : List (α × D)} {a0 : α} {dn dd : D} {σ : St} (τ : St) (ho : o.op = .mapUpdate t x y v) (ht : P.underlying t = some (.map kt e)) (hK : zaD P kt key vk d) (hx : ρ x = some (.map r)) (hy : ρ y = some (key a0)) (hv : ρ v = some dn) (hw : Wk dn dd) (hσ : σ.Perm (.map r (za8 key l) :: τ)) (hlen : l.length < 9223372036854775807) :
 zB P o ρ σ fun _ σ' => σ' = .map r (za8 key (zaX l a0 dd)) :: τ := fun K p a w hi h => by
 have h1 := h x (by rw [ho]; simp [Op.operands]) _ hx
 have hyr := h y (by rw [ho]; simp [Op.operands]) _ hy
 have h2 := hK.rep _ _ _ _ hyr
 have hgood : d (vk a0) := h2 ▸ hK.good _ _ _ _ hyr
 have h3 := hw _ _ _ (h v (by rw [ho]; simp [Op.operands]) _ hv)
 simp only [Rep] at h1
 have hi' := hi.perm hσ
 obtain ⟨es, clock, g1, g2, g3, gn, gl⟩ := hi'.ok _ (jd ..)
 have hc := hK.check w false (vk a0) hgood
 have hlt : r < w.heap.size := (jE.1 g1).1
 have fin : ∀ (es' : Array MapEntry) (clock' : Nat), (es'.toList.map (·.born)).Nodup → (∀ e ∈ es'.toList, e.born < clock') → (∀ (q : Addr → Prop) (u : World), zU p w q u → zZ q u (za8 key (zaX l a0 dd)) es'.toList) →
  ∃ p', Inv K p' (.map r (za8 key (zaX l a0 dd)) :: τ) { w with heap := w.heap.setIfInBounds r (.map es' clock') } ∧ zU p w p' { w with heap := w.heap.setIfInBounds r (.map es' clock') } ∧ p' = p := fun es' clock' hn' hl' hr => by
  have hset := MapKept.heap_set (o' := .map es' clock') g1
  have hcell : ∀ a', p a' → ({ w with heap := w.heap.setIfInBounds r (.map es' clock') } : World).cell? a' = w.cell? a' := fun a' ha => qis (hset.2 _ (by
   intro e
   obtain ⟨u, hu⟩ := hi.pub a' ha
   unfold World.cell? at hu
   rw [e, g1] at hu
   cases hu))
  have gr : zU p w p { w with heap := w.heap.setIfInBounds r (.map es' clock') } := fun a' ha => ⟨ha, hcell a' ha⟩
  refine ⟨p, hi'.write (b := r) rfl rfl gr (fun a' ha => .inl ha) ⟨es', clock', hset.1, hr _ _ gr, ?_, hn', hl'⟩ (fun a' ha => ?_) rfl rfl rfl (by simp) fun k hk => hset.2 k hk, gr, rfl⟩
  · have := quL l a0 dd
    simp only [jb]
    omega
  · obtain ⟨u, hu⟩ := hi.pub a' ha
    exact ⟨u, by rw [hcell a' ha]; exact hu⟩
 rcases qoF hK p w a0 dd l es.toList 0 g2 with ⟨q1, q2, q3⟩ | ⟨j, e', dv, q1, q2, q3, q4, q5, q6⟩
 · have hf := (hK.find w (vk a0) es.toList hgood (qlE hK g2)).trans (by rw [q1])
   have hr : (execOp a.eval o).run P w = .ok .skip { w with heap := w.heap.setIfInBounds r (.map (es.push { key := vk a0, val := a.eval v, born := clock }) (clock + 1)) } := by
    unfold execOp
    rw [ho]
    simp [h1, h2, Instr.mapUpdate, run_underlying ht, MapKept.run_getObj_map g1, hc, hf, MapKept.run_setObj_map _ g1]
   unfold Oper.wp
   rw [hr]
   obtain ⟨p', f1, f2, rfl⟩ := fin (es.push { key := vk a0, val := a.eval v, born := clock }) (clock + 1) (by
    rw [Array.toList_push, jM]
    refine jI.2 ⟨gn, by simp, fun x hx y hy hxy => ?_⟩
    obtain ⟨e, he, rfl⟩ := jA.1 hx
    simp only [jl, vb, jm] at hy
    have := gl e he
    omega) (by
    intro e he
    rw [Array.toList_push] at he
    rcases jn.1 he with he | he
    · have := gl e he; omega
    · rw [jm.1 he]; exact Nat.lt_succ_self _) fun q u g => by
    rw [q3, Array.toList_push, za8, jM]
    refine qsV (g2.grow g) ?_
    simp only [jl, vb, zZ]
    exact ⟨_, [], rfl, h2 ▸ hyr.grow g, h3.grow g, rfl⟩
   exact ⟨Go.undef, .undef, _, p', rfl, rfl, by simp only [Rep], f1, f2⟩
 · have hf := (hK.find w (vk a0) es.toList hgood (qlE hK g2)).trans (by rw [q1])
   rw [jt] at hf
   have hks : (Instr.keyThatStays (((es[j]?).map (·.key)).getD (vk a0)) (vk a0)).run P w = .ok (vk a0) w := by
    have : es[j]? = some e' := by simpa using q2
    rw [this]
    simp only [Option.map_some, vO, q3]
    exact hK.stays w _ hgood
   have hr : (execOp a.eval o).run P w = .ok .skip { w with heap := w.heap.setIfInBounds r (.map (es.modify j fun e => { e with key := vk a0, val := a.eval v }) clock) } := by
    unfold execOp
    rw [ho]
    simp [h1, h2, Instr.mapUpdate, run_underlying ht, MapKept.run_getObj_map g1, hc, hf, hks, MapKept.run_setObj_map _ g1]
   unfold Oper.wp
   rw [hr]
   have hm : (es.modify j fun e => { e with key := vk a0, val := a.eval v }).toList = es.toList.set j { e' with key := vk a0, val := a.eval v } := by
    apply List.ext_getElem?
    intro k
    rw [vp, Array.getElem?_modify, List.getElem?_set, vp]
    have hj := (jr.1 q2).1
    by_cases hjk : j = k
    · subst hjk
      rw [if_pos rfl, if_pos rfl, if_pos hj]
      have : es[j]? = some e' := by simpa using q2
      rw [this]; rfl
    · rw [if_neg hjk, if_neg hjk]
   have hb : (es.toList.set j { e' with key := vk a0, val := a.eval v }).map (·.born) = es.toList.map (·.born) := by
    apply List.ext_getElem?
    intro k
    rw [List.getElem?_map, List.getElem?_set, List.getElem?_map]
    have hj := (jr.1 q2).1
    by_cases hjk : j = k
    · subst hjk
      rw [if_pos rfl, if_pos hj, q2]
      rfl
    · rw [if_neg hjk]
   obtain ⟨p', f1, f2, rfl⟩ := fin (es.modify j fun e => { e with key := vk a0, val := a.eval v }) clock (by rw [hm, hb]; exact gn) (by
    intro e he
    have h5 : e.born ∈ es.toList.map (·.born) := by rw [← hb, ← hm]; exact jF he
    obtain ⟨e2, h6, h7⟩ := jA.1 h5
    rw [← h7]
    exact gl e2 h6) fun q u g => by
    rw [hm]
    exact q6 q u _ g (h2 ▸ hyr.grow g) (h3.grow g)
   exact ⟨Go.undef, .undef, _, p', rfl, rfl, by simp only [Rep], f1, f2⟩
end
def zaY (u : Value) : Nat := u.ownBlock.getD 0
theorem qtJ {p : Addr → Prop} {w : World} {u : Value} {l : List D} {e : TypeId} {s : Nat} (h : zbm p w (.vec u l e s)) (hl : l ≠ []) :
 ∃ g cap xs junk, u = .slice (some ⟨g, 0, none⟩) l.length cap ∧ zx p w l xs ∧ (∀ x ∈ xs, x.oneCell' = true) ∧ w.heap[g]? = some (.cells (xs ++ junk).toArray e (0, 0)) ∧ (∀ a, p a → a.block ≠ g) ∧ l.length ≤ cap ∧ cap ≤ maxLen ∧ (xs ++ junk).length = cap * s := by
 obtain ⟨h1, h2, ⟨xs, ⟨h3, h4⟩, h5, h6⟩, h7⟩ := h
 rcases h4 with ⟨_, h4⟩ | ⟨g, cap, cur, rfl, _, k1, k2, k3, k4, k5⟩
 · exact absurd (jB h4) hl
 · have e1 : xs ++ cur.toList.drop (l.length * s) = cur.toList := by rw [← k5, j7]
   exact ⟨g, cap, xs, cur.toList.drop (l.length * s), rfl, h5, h6, by rw [e1]; simpa using k1, h7 g rfl, k2, k3, by rw [e1]; simpa using k4⟩
section
variable {P : Program} {o : Oper} {ρ : Operand → Option D} {d : D}
theorem qBt {x : Operand} {t e : TypeId} {u : Value} {n : Nat} (ho : o.op = .call { callee := .builtin .len, args := #[x], argTypes := #[t] }) (ht : P.underlying t = some (.slice e)) (hx : ρ x = some (.vec u n)) : zD P o ρ (.int .i64 (n : Int)) := qeg fun p a w h => by
 have h1 := h x (by rw [ho]; simp [Op.operands, Call.operands]) _ hx
 simp only [Rep] at h1
 obtain ⟨h1, A, c, rfl, h2, h3⟩ := h1
 refine ⟨.int .i64 (n : Int), ?_, by simpa only [Rep, true_and] using wrap64 (by omega)⟩
 unfold execOp
 rw [ho]
 simp [resolve, invoke, builtin, h1, Builtin.len_, run_underlying ht, goInt]
theorem qvK {t e : TypeId} {x ix : Operand} {s by_ n : Nat} {u : Value} {k : IntKind} {m : Int} {σ : St} {l : List D} (j : Nat) (ho : o.op = .indexAddr t x ix) (hE : ElT P t e s by_) (hx : ρ x = some (.vec u n)) (hix : ρ ix = some (.int k m)) (hm : m = (j : Int)) (hj : j < l.length) (hσ : .vec u l e s ∈ σ) : zB P o ρ σ fun d' σ' => d' = .mref (zaY u) j s 0 [] ∧ σ' = σ := fun K p a w hi h => by
 have hne : l ≠ [] := fun e => by rw [e] at hj; simp at hj
 obtain ⟨g, cap, xs, junk, rfl, g1, g2, g3, g4, g5, g6, g7⟩ := qtJ (hi.ok _ hσ) hne
 have h1 := h x (by rw [ho]; simp [Op.operands]) _ hx
 have hn : n = l.length := by
  simp only [Rep] at h1
  obtain ⟨_, A, c, h2, _⟩ := h1
  injection h2 with _ h2
  exact h2.symm
 have h7 := h ix (by rw [ho]; simp [Op.operands]) _ hix
 simp only [Rep] at h1 h7
 obtain ⟨h1, _⟩ := h1
 subst hm hn
 obtain ⟨i, hii, hin⟩ := jS.1 hE.size
 have hr : (execOp a.eval o).run P w = .ok (.value (.pointer (some ⟨g, j * s + 0, none⟩))) w := by
  unfold execOp
  rw [ho]
  simp [h1, h7.1, Instr.indexAt, asIntOf, run_underlying hE.1, sizeOf, typeInfo, hii, hin, hj, zbf]
 unfold Oper.wp
 rw [hr]
 exact ⟨_, .mref g j s 0 [], σ, p, rfl, ⟨rfl, rfl⟩, by simp only [Rep], hi, zU.refl p w⟩
theorem qzs {x y : Operand} {t e : TypeId} {s by_ n : Nat} {σ τ : St} {u : Value} {l m : List D} {dy : D} (ho : o.op = .call { callee := .builtin .append, args := #[x, y], argTypes := #[t, t] }) (hE : ElT P t e s by_) (hx : ρ x = some (.vec u n)) (hy : ρ y = some dy) (hm : AsL dy m) (hσ : σ.Perm (.vec u l e s :: τ)) (hml : zO s m) (hb : (l.length + m.length) * by_ ≤ 140737488355328) (h63 : l.length + m.length ≤ 9223372036854775807) :
 zB P o ρ σ fun d' σ' => ∃ u', d' = .vec u' (l ++ m).length ∧ σ' = .vec u' (l ++ m) e s :: τ := fun K p a w hi h => by
 rw [jf]
 obtain ⟨hu, ⟨z, hz, hzs⟩, hs0⟩ := hE
 obtain ⟨i, hii, hz', hsize, hby⟩ := info_parts hz
 have hi' := hi.perm hσ
 have hxv := h x (by rw [ho]; simp [Op.operands, Call.operands]) _ hx
 simp only [Rep] at hxv
 obtain ⟨hvu, _⟩ := hxv
 have hob := hi'.ok _ (jd ..)
 obtain ⟨hl, _, ⟨xs, ⟨k8, hopen⟩, k6, k7⟩, k9⟩ := hob
 obtain ⟨A, c, ys, g1, g2, g3, g4, g5, g6⟩ := hm.rep (h y (by rw [ho]; simp [Op.operands, Call.operands]) _ hy)
 have hyl : ys.length = m.length * s := by rw [g5.len, hml.szs]
 have hlm : zO s (l ++ m) := fun d hd => (jn.1 hd).elim (hl d) (hml d)
 have hrun0 : ∀ r, (Builtin.append_ #[t, t] o.type #[u, .slice A m.length c]).run P w = r → (execOp a.eval o).run P w = r.andThen fun v w' => .ok (.value v) w' := fun r hr => by
  subst hr
  unfold execOp
  simp only [ho, resolve, invoke, builtin, Sem.run_bind, Sem.run_pure, Result.andThen_ok, List.map_toArray, jl, vb, hvu, g1]
 have hmx : maxLen = 9223372036854775807 := rfl
 -- where nothing is appended
 by_cases hm0 : m.length = 0
 · have hm0' : m = [] := jB hm0
   subst hm0'
   have hys : ys = [] := jB (by simpa using hyl)
   have hrep : Rep p w (.vec u l.length) u := by
    simp only [Rep]
    refine ⟨trivial, ?_⟩
    rcases hopen with ⟨rfl, h0⟩ | ⟨g, cap, cur, rfl, _, k1, k2, k3, _⟩
    · exact ⟨none, 0, by rw [h0], by omega, by omega⟩
    · exact ⟨_, cap, rfl, k2, by omega⟩
   have hr : (Builtin.append_ #[t, t] o.type #[u, .slice A 0 c]).run P w = .ok u w := by
    rcases hopen with ⟨rfl, _⟩ | ⟨g, cap, cur, rfl, _, k1, k2, _⟩
    · cases A <;> simp [Builtin.append_, run_underlying hu, sizeOf, typeInfo, hii, Builtin.lenOf, Builtin.firstCells, loadCells, loadCellsFrom]
    · cases A <;> simp [Builtin.append_, run_underlying hu, sizeOf, typeInfo, hii, Builtin.lenOf, Builtin.firstCells, loadCells, loadCellsFrom, k2, storeCells]
   unfold Oper.wp
   rw [hrun0 _ hr]
   exact ⟨u, .vec u (l.length + 0), _, p, rfl, ⟨u, rfl, rfl⟩, hrep, by simpa using hi', zU.refl p w⟩
 -- the cells that are appended
 · have hys : ys ≠ [] := fun hys => by
    rw [hys] at hyl
    have := Nat.mul_pos (vE hm0) hs0
    simp at hyl
    omega
   rcases g4 with g4 | ⟨b, o', rfl, hcell⟩
   · exact absurd g4 hys
   have hnews : ∀ j v, ys[j]? = some v → w.cell? ((⟨b, o', none⟩ : Addr).add j) = some v := fun j v hv => by rw [zbf]; exact (hcell j v hv).2
   subst hsize
   subst hby
   have grown : ∀ (old : Nat), old < l.length + m.length →
    ∃ u', u' = .slice (some ⟨w.heap.size, 0, none⟩) (l.length + m.length) (grownCap w (l.length + m.length) old e) ∧ Rep p (w.drew.alloc (.cells (xs.toArray ++ ys.toArray ++ Builtin.zeroCells z.cells (grownCap w (l.length + m.length) old e - (l.length + m.length))) e)) (.vec u' (l.length + m.length)) u' ∧ Inv K p (.vec u' (l ++ m) e i.size :: τ) (w.drew.alloc (.cells (xs.toArray ++ ys.toArray ++ Builtin.zeroCells z.cells (grownCap w (l.length + m.length) old e - (l.length + m.length))) e)) ∧
     zU p w p (w.drew.alloc (.cells (xs.toArray ++ ys.toArray ++ Builtin.zeroCells z.cells (grownCap w (l.length + m.length) old e - (l.length + m.length))) e)) := fun old hold => by
    have hge := grownCap_ge w (l.length + m.length) old e
    have hcm : grownCap w (l.length + m.length) old e ≤ maxLen := grownCap_le_maxLen w (l.length + m.length) old e (by unfold maxLen; omega)
    have hlen : (xs ++ ys).length = (l.length + m.length) * i.size := by rw [jf, k8, hyl, ju]
    have hs1 : (xs.toArray ++ ys.toArray ++ Builtin.zeroCells z.cells (grownCap w (l.length + m.length) old e - (l.length + m.length))).size = grownCap w (l.length + m.length) old e * i.size := by
     simp only [Array.size_append, j3, size_zeroCells, hzs, k8, hyl, ← ju]
     congr 1
     omega
    have ht1 : (xs.toArray ++ ys.toArray ++ Builtin.zeroCells z.cells (grownCap w (l.length + m.length) old e - (l.length + m.length))).toList.take ((l.length + m.length) * i.size) = xs ++ ys := by
     simp only [Array.toList_append, ji]
     rw [← ji, ← hlen]
     exact vF
    generalize xs.toArray ++ ys.toArray ++ Builtin.zeroCells z.cells (grownCap w (l.length + m.length) old e - (l.length + m.length)) = cur at hs1 ht1 ⊢
    have gr : zU p w p (w.drew.alloc (.cells cur e)) := (qin p w).tr (qfM hi'.tail.drew.pub _)
    refine ⟨_, rfl, ?_, ?_, gr⟩
    · simp only [Rep]
      exact ⟨trivial, _, _, rfl, hge, by omega⟩
    · refine (hi'.tail.drew.alloc (.cells cur e)).more ⟨hlm, hs0, ⟨xs ++ ys, ⟨by rw [hlen, jf], .inr ⟨w.heap.size, _, cur, by rw [jf], jc _, heap_alloc_new w.drew _, by rw [jf]; exact hge, hcm, hs1, by rw [jf]; exact ht1⟩⟩, (k6.app g5).grow gr, fun x hx => (jn.1 hx).elim (k7 x) (g6 x)⟩, fun g hg a ha hab => ?_⟩ fun b hb => ?_
      · simp only [Value.ownBlock, Option.some.injEq] at hg
        have hg : w.heap.size = g := hg
        obtain ⟨v, hv⟩ := hi.pub a ha
        have := qmO hv
        omega
      · simp only [Ob.blk, Value.ownBlock, Option.some.injEq] at hb
        have hb : w.heap.size = b := hb
        subst hb
        exact ⟨.inl hi.size, fun hm => by have := hi'.tail.lt hm; omega⟩
   have hmpos : 0 < m.length := vE hm0
   rcases hopen with ⟨rfl, h0⟩ | ⟨g, cap, cur, rfl, _, k1, k2, k3, k4, k5⟩
   · obtain rfl := jB h0
     obtain rfl : xs = [] := jB (by simpa using k8)
     have hr := run_append_nil (P := P) w t o.type e i z hu hii hz' ⟨b, o', none⟩ m.length c ys hyl hnews (by omega) (by omega) (by have hb := hb; simp only [jY, jt] at hb; omega)
     obtain ⟨u', hu', q1, q2, q3⟩ := grown 0 (by simp; omega)
     simp only [jY, jt, Array.empty_append, jo] at hr q1 q2 q3 hu' ⊢
     unfold Oper.wp
     rw [hrun0 _ hr]
     subst hu'
     exact ⟨_, _, _, p, rfl, ⟨_, rfl, rfl⟩, q1, q2, q3⟩
   · by_cases hroom : l.length + m.length ≤ cap
     · have hfit : l.length * i.size + ys.length ≤ cur.size := by rw [hyl, k4, ← ju]; exact jL _ hroom
       have hr := run_append_room (P := P) w t o.type e i hu hii g l.length cap cur k1 ⟨b, o', none⟩ m.length c ys hyl hnews g6 hroom hfit
       unfold Oper.wp
       rw [hrun0 _ hr]
       generalize hnew : (cur.toList.take (l.length * i.size) ++ ys ++ cur.toList.drop (l.length * i.size + ys.length)) = new
       have hh := setRow_heap w g cur new.toArray e (0, 0) k1
       have htl : (cur.toList.take (l.length * i.size)).length = l.length * i.size := by rw [k5, k8]
       have hnewl : new.take ((l.length + m.length) * i.size) = xs ++ ys := by
        rw [← hnew, k5]
        have : (xs ++ ys).length = (l.length + m.length) * i.size := by rw [jf, k8, hyl, ju]
        rw [← this]
        exact vF
       have gr : zU p w p (w.setRow g new.toArray) := fun a' ha => ⟨ha, qis (setRow_other w g _ _ (k9 g rfl a' ha))⟩
       have hle : (l.length + m.length) * i.size ≤ cap * i.size := jL _ hroom
       have hnl : new.length = cap * i.size := by
        rw [← hnew]
        simp only [jf, vc, htl, hyl, jW, k4]
        rw [ju] at hle
        omega
       refine ⟨.slice (some ⟨g, 0, none⟩) (l.length + m.length) cap, .vec (.slice (some ⟨g, 0, none⟩) (l.length + m.length) cap) (l.length + m.length), _, p, rfl, ⟨_, rfl, rfl⟩, ?_, ?_, gr⟩
       · simp only [Rep]
         exact ⟨trivial, _, cap, rfl, hroom, by omega⟩
       · refine hi'.write (b := g) rfl rfl gr (fun a' ha => .inl ha) ⟨hlm, hs0, ⟨xs ++ ys, ⟨by rw [jf, jf, k8, hyl, ju], .inr ⟨g, cap, new.toArray, by rw [jf], jc _, hh, by rw [jf]; exact hroom, k3, by simpa using hnl, by rw [jf]; simpa using hnewl⟩⟩, (k6.app g5).grow gr, fun x hx => (jn.1 hx).elim (k7 x) (g6 x)⟩, fun g' hg' a' ha hab => k9 g rfl a' ha (by simp only [Value.ownBlock, Option.some.injEq] at hg'; exact hab.trans hg'.symm)⟩ (fun a' ha => ?_) rfl rfl rfl (by simp) fun k hk => setRow_other w g k _ hk
         obtain ⟨v, hv⟩ := hi.pub a' ha
         exact ⟨v, by rw [(gr a' ha).2]; exact hv⟩
     · have holds : ∀ j v, xs[j]? = some v → w.cell? ((⟨g, 0, none⟩ : Addr).add j) = some v := fun j v hv => by
        rw [zbf, jt, cell_of_row _ _ _ _ _ _ k1]
        have hj := (jr.1 hv).1
        rw [← k5, j4, if_pos (by omega)] at hv
        simpa using hv
       have hr := run_append_grow (P := P) w t o.type e i z hu hii hz' ⟨g, 0, none⟩ l.length cap xs k8 holds ⟨b, o', none⟩ m.length c ys hyl hnews (by omega) (by omega) (growslice_fits (by omega) hb)
       obtain ⟨u', hu', q1, q2, q3⟩ := grown cap (by omega)
       unfold Oper.wp
       rw [hrun0 _ hr]
       subst hu'
       exact ⟨_, _, _, p, rfl, ⟨_, rfl, rfl⟩, q1, q2, q3⟩
theorem qi6 {t e : TypeId} {x : Operand} {n i s off : Nat} {u : Value} {path : List Nat} {σ : St} {l : List D} {d0 : D} (ho : o.op = .load t x) (hx : ρ x = some (.mref (zaY u) i s off path)) (hσ : .vec u l e s ∈ σ) (hl : l[i]? = some d0) (hs : yR d0 path = some d) (hoff : yU d0 path = off) (ht : Ty P t d.isAgg n) (hn : sz d = n) : zB P o ρ σ fun d' σ' => d' = d ∧ σ' = σ := fun K p a w hi h => by
 have h1 := h x (by rw [ho]; simp [Op.operands]) _ hx
 simp only [Rep] at h1
 obtain ⟨g, cap, xs, junk, rfl, g3, g4, g5, g6, _⟩ := qtJ (hi.ok _ hσ) (fun h => by rw [h] at hl; simp at hl)
 have g1 : zO s l := (hi.ok _ hσ).1
 obtain ⟨v0, hv0, hc0⟩ := g3.at_cell hl
 obtain ⟨v, hv, hc⟩ := qju hv0 hs
 have hmin : (l.take i).length = i := by have := (jr.1 hl).1; simp; omega
 rw [(g1.take i).szs, hmin] at hc0
 have hlr := qig (P := P) (b := g) (o := i * s + off) ht hn hv (fun j y hy => by
  rw [cell_of_row _ _ _ _ _ _ g5, ← hoff]
  have := hc0 _ y (hc j y hy)
  have hlt := (jr.1 this).1
  simp only [vS]
  rw [jK, jT hlt]
  exact this)
 have hr : (execOp a.eval o).run P w = .ok (.value v) w := by
  unfold execOp
  rw [ho]
  simp [h1, zaY, Value.ownBlock, Instr.loadAt, Instr.sureAddr, hlr]
 unfold Oper.wp
 rw [hr]
 exact ⟨v, d, σ, p, rfl, ⟨rfl, rfl⟩, hv, hi, zU.refl p w⟩
theorem qzm {t e : TypeId} {x y : Operand} {n i s off : Nat} {u : Value} {path : List Nat} {σ : St} (τ : St) {l : List D} {d0 dOld dn : D} {ag : Bool} (ho : o.op = .store t x y) (hx : ρ x = some (.mref (zaY u) i s off path)) (hy : ρ y = some dn) (hw : Wk dn d) (hσ : σ.Perm (.vec u l e s :: τ)) (hl : l[i]? = some d0) (hp0 : d0.plain = true) (hs : yR d0 path = some dOld) (hoff : yU d0 path = off) (ht : Ty P t ag n) (hn : sz d = n) (hn' : sz dOld = n) (hp : d.plain = true) : zB P o ρ σ fun _ σ' => σ' = .vec u (l.set i (zaE d0 path d)) e s :: τ := fun K p a w hi h => by
 have h1 := h x (by rw [ho]; simp [Op.operands]) _ hx
 simp only [Rep] at h1
 have h2 := hw _ _ _ (h y (by rw [ho]; simp [Op.operands]) _ hy)
 have hi' := hi.perm hσ
 have hob := hi'.ok _ (jd ..)
 obtain ⟨b, cap, xs, junk, rfl, g3, g4, g5, g6, c1, c2, c3⟩ := qtJ hob (fun h => by rw [h] at hl; simp at hl)
 obtain ⟨g1, g0, _, _⟩ := hob
 obtain ⟨ii, hii, hin⟩ := jS.1 ht.2
 have hsz : (a.eval y).cells.size = n := by rw [Rep.sz h2, hn]
 have hil := (jr.1 hl).1
 have hmin : (l.take i).length = i := by simp; omega
 obtain ⟨v0, hv0, hsplit, hlen1⟩ := g3.at_ hl
 obtain ⟨v', q1, q2, q3, q4, q5⟩ := qnG hv0 hs (by rw [hn, hn']) h2 hp hp0
 have hset := zx.set g3 hl q5 q1
 rw [(g1.take i).szs, hmin] at hsplit hlen1 hset
 have hd0 : sz d0 = s := g1 d0 (List.mem_of_getElem? hl)
 have hv0l : v0.cells.toList.length = s := by rw [← hd0]; simpa using Rep.sz hv0
 have hxl : xs.length = l.length * s := by rw [g3.len, g1.szs]
 have hle : (i + 1) * s ≤ l.length * s := jL s (by omega)
 rw [ju, jU] at hle
 have hst := run_storeCells_at (P := P) b (i * s + off) e (a.eval y).cells.toList 0 (xs ++ junk).toArray w g5 (by
  simp only [jW, hsz, jZ, j3, jf]
  rw [hd0, hn, hoff] at q4
  omega) (Rep.one h2 hp)
 have hrow : ((xs ++ junk).toArray.toList.take (i * s + off + 0) ++ (a.eval y).cells.toList ++ (xs ++ junk).toArray.toList.drop (i * s + off + 0 + (a.eval y).cells.toList.length)).toArray = ((xs.take (i * s) ++ v'.cells.toList ++ xs.drop (i * s + s)) ++ junk).toArray := by
  congr 1
  simp only [jZ, jW, hsz, ← hn]
  rw [q3, hoff]
  rw [hd0, hoff] at q4
  generalize hA : xs.take (i * s) = A at hsplit hlen1 ⊢
  generalize hB : xs.drop (i * s + s) = B
  rw [hd0, hB] at hsplit
  rw [hsplit]
  have e1 : (A ++ v0.cells.toList ++ B ++ junk).take (i * s + off) = A ++ v0.cells.toList.take off := by
   rw [← hlen1, ji, ji, j6, v8 (by omega)]
  have e2 : (A ++ v0.cells.toList ++ B ++ junk).drop (i * s + off + sz d) = v0.cells.toList.drop (off + sz d) ++ (B ++ junk) := by
   rw [← hlen1, ji, ji, jK, j5, Ja (by omega)]
  rw [e1, e2]
  simp only [ji]
 rw [hrow] at hst
 have hr : (execOp a.eval o).run P w = .ok .skip (w.setRow b ((xs.take (i * s) ++ v'.cells.toList ++ xs.drop (i * s + s)) ++ junk).toArray) := by
  unfold execOp
  rw [ho]
  simp only [h1, zaY, Value.ownBlock, vO, Instr.storeAt, Instr.sureAddr, storeVar, Sem.run_bind, Sem.run_pure, Result.andThen_ok, sizeOf, typeInfo, run_program, hii, hsz, hin, ne_eq, not_true_eq_false, if_false, hst]
 have gr : zU p w p (w.setRow b ((xs.take (i * s) ++ v'.cells.toList ++ xs.drop (i * s + s)) ++ junk).toArray) := fun a' ha => ⟨ha, qis (setRow_other w b _ _ (g6 a' ha))⟩
 unfold Oper.wp
 rw [hr]
 refine ⟨Go.undef, .undef, _, p, rfl, rfl, by simp only [Rep], ?_, gr⟩
 rw [q5, hd0] at hset
 have hnl : (xs.take (i * s) ++ v'.cells.toList ++ xs.drop (i * s + s)).length = l.length * s := by
  have e3 := hset.len
  rw [e3]
  have hall : zO s (l.set i (zaE d0 path d)) := fun e' he' => by
   rcases vX he' with h | rfl
   · exact g1 e' h
   · rw [q5, hd0]
  rw [hall.szs]
  simp
 refine hi'.write (b := b) rfl rfl gr (fun a' ha => .inl ha) ⟨fun e' he' => ?_, g0, ⟨_, ⟨by rw [hnl]; simp, .inr ⟨b, cap, _, by simp, jc _, setRow_heap w b _ _ _ _ g5, by simpa using c1, c2, ?_, ?_⟩⟩, hset.grow gr, fun u hu => ?_⟩, fun g' hg' a' ha hab => g6 a' ha (by simp only [Value.ownBlock, Option.some.injEq] at hg'; exact hab.trans hg'.symm)⟩ (fun a' ha => ?_) rfl rfl rfl (by simp) fun k hk => setRow_other w b k _ hk
 · rcases vX he' with h | rfl
   · exact g1 e' h
   · rw [q5, hd0]
 · rw [j3, jf, hnl, ← hxl, ← jf, c3]
 · simp only [List.length_set]
   rw [← hnl]
   exact vF
 · rcases jn.1 hu with hu | hu
   · rcases jn.1 hu with hu | hu
     · exact g4 u (vg hu)
     · exact Rep.one q1 q2 u hu
   · exact g4 u (vh hu)
 · obtain ⟨u, hu⟩ := hi.pub a' ha
   exact ⟨u, by rw [(gr a' ha).2]; exact hu⟩
end
section
variable {P : Program} {f : FuncId} {fn : Func} {K : Ctx} {R : D → St → Prop} {k : List Item} {env : Env} {σ τ : St}
theorem qzf {m : Md} (e : TypeId) (s : Nat) (hs0 : 0 < s) (h : zk m P f fn K R k env (.vec (.slice none 0 0) ([] : List D) e s :: σ)) : zk m P f fn K R k env σ := fun p a w hi =>
 h p a w (hi.more (o := .vec (.slice none 0 0) [] e s) ⟨zO.nil s, hs0, ⟨[], World.ownsRow_nil w 0 e s, zx.nil _ _, by simp⟩, fun g hg => by simp [Value.ownBlock] at hg⟩ (fun b hb => by simp [Ob.blk, Value.ownBlock] at hb))
end
abbrev wr (n : Int) : Int := IntKind.i64.wrap n
theorem qhO {n : Int} (h : -9223372036854775808 ≤ n ∧ n < 9223372036854775808) : wr n = n := wrap64 h
def zj {α : Type} (l : List α) (n : Int) : Option α := if 0 ≤ n then l[n.toNat]? else none
theorem qdy {α : Type} (l : List α) (i : Nat) : zj l (i : Int) = l[i]? := by simp [zj]
theorem qb6 {α : Type} {l : List α} {n : Int} {q : α} (h : zj l n = some q) : 0 ≤ n ∧ l[n.toNat]? = some q := by
 unfold zj at h
 split at h
 · exact ⟨by assumption, h⟩
 · cases h
def zN {α : Type} (b : Nat) (l m : List α) : Option (List α) := if (l.length + m.length) * b ≤ 140737488355328 ∧ l.length + m.length ≤ 9223372036854775807 then some (l ++ m) else none
theorem qme {α : Type} {b : Nat} {l m : List α} (h : (l.length + m.length) * b ≤ 140737488355328) (h2 : l.length + m.length ≤ 9223372036854775807) : zN b l m = some (l ++ m) := by rw [zN, if_pos ⟨h, h2⟩]
theorem qsH {α : Type} {b : Nat} {l m r : List α} (h : zN b l m = some r) : (l.length + m.length) * b ≤ 140737488355328 ∧ l.length + m.length ≤ 9223372036854775807 ∧ r = l ++ m := by
 unfold zN at h
 split at h
 · rename_i h1
   exact ⟨h1.1, h1.2, (Option.some.inj h).symm⟩
 · cases h
def yt {α : Type} (l : List α) (lo hi : Int) : Option (List α) := if 0 ≤ lo ∧ lo ≤ hi ∧ hi ≤ l.length then some ((l.take hi.toNat).drop lo.toNat) else none
theorem qwH {α : Type} {l r : List α} {lo hi : Int} (h : yt l lo hi = some r) : 0 ≤ lo ∧ lo ≤ hi ∧ hi ≤ l.length ∧ r = (l.take hi.toNat).drop lo.toNat := by
 unfold yt at h
 split at h
 · rename_i h1
   exact ⟨h1.1, h1.2.1, h1.2.2, (Option.some.inj h).symm⟩
 · cases h
def zac (b : Nat) (n : Int) : Option Nat := if 0 ≤ n ∧ b * n.toNat ≤ 281474976710656 ∧ n.toNat ≤ 9223372036854775807 then some n.toNat else none
theorem qp9 {b : Nat} {n : Int} {r : Nat} (h : zac b n = some r) : n = (r : Int) ∧ b * r ≤ 281474976710656 ∧ r ≤ 9223372036854775807 := by
 unfold zac at h
 split at h
 · rename_i h1
   obtain rfl := Option.some.inj h
   exact ⟨by omega, h1.2.1, h1.2.2⟩
 · cases h
theorem za {α β : Type} {o : Option α} {f : α → Option β} {r : β} (h : o.bind f = some r) : ∃ q, o = some q ∧ f q = some r := by
 cases o with
 | none => cases h
 | some q => exact ⟨q, rfl, h⟩
theorem exK {β γ : Type} (F : β → γ) {a : β} {r : γ} (h : F a = r) : ∃ k, k = a ∧ F k = r := ⟨a, rfl, h⟩
theorem zb {α : Type} (l : List α) (i : Nat) (hi : i ≤ l.length) : (decide ((i : Int) < (l.length : Int)) = false ∧ l.drop i = [] ∧ i = l.length) ∨ ∃ q, decide ((i : Int) < (l.length : Int)) = true ∧ l.drop i = q :: l.drop (i + 1) ∧ zj l (i : Int) = some q ∧ i < l.length := by
 by_cases h : i < l.length
 · exact .inr ⟨l[i], decide_eq_true (by omega), jV h, by rw [qdy]; exact jq h, h⟩
 · exact .inl ⟨decide_eq_false (by omega), j2 (by omega), by omega⟩
theorem zbc (i n : Int) (m : Nat) (hm : m = (n - i).toNat) : (m = 0 ∧ decide (i < n) = false) ∨ ∃ m', m = m' + 1 ∧ decide (i < n) = true ∧ m' = (n - (i + 1)).toNat ∧ i < n := by
 by_cases h : i < n
 · exact .inr ⟨(n - (i + 1)).toNat, by omega, decide_eq_true h, rfl, h⟩
 · exact .inl ⟨by omega, decide_eq_false h⟩
section
variable {P : Program} {X : Env → D → St → Prop} {l : List Oper} {rest : List (Nat × Cls)} {env : Env} {σ : St} {f : FuncId} {fn : Func} {K : Ctx} {R : D → St → Prop} {k : List Item}
theorem zq {m : Md} {α : Type} (s : Nat) {b : Bool} {x y : Option α} {res : α} (hs : lk env s = some (.bool b)) (hr : (bif b then x else y) = some res) (h1 : b = true → x = some res → Run P l.toArray X (zk m P f fn K R k) rest ((s, .bool true) :: env) σ) (h2 : b = false → y = some res → Run P l.toArray X (zk m P f fn K R k) rest ((s, .bool false) :: env) σ) : Run P l.toArray X (zk m P f fn K R k) rest env σ :=
 qth s hs (fun h => h1 h (by rw [h] at hr; exact hr)) fun h => h2 h (by rw [h] at hr; exact hr)
theorem zh {m : Md} {α : Type} (s : Nat) {b : Bool} {x y : Option α} {res : α} (hs : lk env s = some (.bool b)) (hr : (bif b then x else y) = some res) (h1 : b = true → x = some res → zk m P f fn K R k ((s, .bool true) :: env) σ) (h2 : b = false → y = some res → zk m P f fn K R k ((s, .bool false) :: env) σ) : zk m P f fn K R k env σ :=
 qs6 s hs (fun h => h1 h (by rw [h] at hr; exact hr)) fun h => h2 h (by rw [h] at hr; exact hr)
theorem qx {m : Md} {id : Nat} {c : Code} (J : Env → St → Prop) (hJ : ∀ env σ, J env σ → zk m P f fn K R k env σ) (h : (∀ env σ, J env σ → zk m P f fn K R k env σ) → zk m P f fn K R (.code c :: .inBlock id :: k) env σ) : zk m P f fn K R (.code (.block id c) :: k) env σ := qtm (h hJ)
end
theorem pf0 {α : Type} (l : List α) : l.Perm l := List.Perm.refl _
theorem pf1 {α : Type} (a b : α) (l : List α) : (a :: b :: l).Perm (b :: a :: l) := List.Perm.swap b a l
theorem pf2 {α : Type} (a b c : α) (l : List α) : (a :: b :: c :: l).Perm (c :: a :: b :: l) := ((pf1 b c l).cons a).trans (pf1 a c _)
theorem pf3 {α : Type} (a b c d : α) (l : List α) : (a :: b :: c :: d :: l).Perm (d :: a :: b :: c :: l) := ((pf2 b c d l).cons a).trans (pf1 a d _)
theorem pf4 {α : Type} (a b c d e : α) (l : List α) : (a :: b :: c :: d :: e :: l).Perm (e :: a :: b :: c :: d :: l) := ((pf3 b c d e l).cons a).trans (pf1 a e _)
theorem pf5 {α : Type} (a b c d e f : α) (l : List α) : (a :: b :: c :: d :: e :: f :: l).Perm (f :: a :: b :: c :: d :: e :: l) := ((pf4 b c d e f l).cons a).trans (pf1 a f _)
section
variable {P : Program} {o : Oper} {ρ : Operand → Option D} {d : D} {α : Type} {f : α → D}
theorem qz6 {t e : TypeId} {x ix : Operand} {s by_ : Nat} {dx : D} (l : List α) {k : IntKind} {n : Int} {q : α} (ho : o.op = .indexAddr t x ix) (hE : ElT P t e s by_) (hx : ρ x = some dx) (hl : AsL dx (l.map f)) (hix : ρ ix = some (.int k n)) (hq : zj l n = some q) (hall : ∀ a, sz (f a) = s) (hp : (f q).plain = true) : zD P o ρ (.ptr (f q)) := by
 obtain ⟨h0, h1⟩ := qb6 hq
 exact qz9 n.toNat ho hE hx hl hix (by omega) (zay h1) (zbF hall) hp
theorem qaK {x y : Operand} {t e : TypeId} {s by_ : Nat} {σ τ : St} {u : Value} (l m : List α) {r : List α} {dy : D} {n : Nat} (ho : o.op = .call { callee := .builtin .append, args := #[x, y], argTypes := #[t, t] }) (hE : ElT P t e s by_) (hx : ρ x = some (.own u (l.map f))) (hy : ρ y = some dy) (hm : AsL dy (m.map f)) (hσ : σ.Perm (.row u n e s :: τ)) (hn : n = l.length) (hall : ∀ a, sz (f a) = s) (hr : zN by_ l m = some r) :
 zB P o ρ σ fun d' σ' => ∃ u', d' = .own u' (r.map f) ∧ σ' = .row u' r.length e s :: τ := by
 obtain ⟨h1, h2, rfl⟩ := qsH hr
 have h := qzw (P := P) (o := o) (ρ := ρ) (σ := σ) (τ := τ) (u := u) (l := l.map f) (m := m.map f) ho hE hx hy hm (by rw [jb, ← hn]; exact hσ) (zbF hall) (zbF hall) (by simpa using h1) (by simpa using h2)
 rw [← jM, jb] at h
 exact h
theorem qnv {t e : TypeId} {x : Operand} {low high : Option Operand} {s by_ : Nat} {dx : D} (l : List α) {r : List α} (lo hi : Int) (ho : o.op = .slice t x low high none) (hE : ElT P t e s by_) (hx : ρ x = some dx) (hl : AsL dx (l.map f)) (h1 : ∀ n : Nat, (n : Int) = lo → zaL ρ low n) (h2 : ∀ n : Nat, (n : Int) = hi → zaF ρ l.length high n) (hall : ∀ a, sz (f a) = s) (hr : yt l lo hi = some r) : zD P o ρ (.lst (r.map f)) := by
 obtain ⟨g1, g2, g3, rfl⟩ := qwH hr
 have := qCf lo.toNat hi.toNat ho hE hx hl (h1 _ (by omega)) (by rw [jb]; exact h2 _ (by omega)) (by omega) (by rw [jb]; omega) (zbF hall)
 rwa [← List.map_take, ← List.map_drop] at this
theorem qmf : ∀ n : Nat, (n : Int) = 0 → zaL ρ none n := fun n h => by unfold zaL; omega
theorem qox {x : Operand} {k : IntKind} {m : Int} (h : ρ x = some (.int k m)) : ∀ n : Nat, (n : Int) = m → zaL ρ (some x) n := fun n e => ⟨k, m, h, e.symm⟩
theorem qoX {len : Nat} : ∀ n : Nat, (n : Int) = (len : Int) → zaF ρ len none n := fun n h => by unfold zaF; omega
theorem qma {len : Nat} {x : Operand} {k : IntKind} {m : Int} (h : ρ x = some (.int k m)) : ∀ n : Nat, (n : Int) = m → zaF ρ len (some x) n := fun n e => ⟨k, m, h, e.symm⟩
theorem qCl {x : Operand} {t e : TypeId} {s by_ : Nat} {dx : D} (l : List α) (ho : o.op = .call { callee := .builtin .len, args := #[x], argTypes := #[t] }) (hE : ElT P t e s by_) (hx : ρ x = some dx) (hl : AsL dx (l.map f)) : zD P o ρ (.int .i64 (l.length : Int)) := by
 have := qCn ho hE hx hl
 rwa [jb] at this
theorem qx0 {t e : TypeId} {x y : Operand} {s by_ : Nat} {k k' : IntKind} {a1 : Int} {r : Nat} (z : α) {σ : St} (ho : o.op = .makeSlice t x y) (hE : ElT P t e s by_) (hZ : yn P e (f z)) (hx : ρ x = some (.int k a1)) (hy : ρ y = some (.int k' a1)) (hr : zac by_ a1 = some r) :
 zB P o ρ σ fun d' σ' => ∃ b, d' = .arr b s 0 r ∧ σ' = .arr b ((List.replicate r z).map f) e s :: σ := by
 obtain ⟨rfl, h2, h3⟩ := qp9 hr
 rw [List.map_replicate]
 exact qw8 ho hE hZ hx rfl hy rfl h2 h3
theorem qAw {t e : TypeId} {x y : Operand} {s by_ : Nat} {k k' : IntKind} {a1 : Int} {r : Nat} {σ : St} (ho : o.op = .makeSlice t x y) (hE : ElT P t e s by_) (hx : ρ x = some (.int k 0)) (hy : ρ y = some (.int k' a1)) (hr : zac by_ a1 = some r) :
 zB P o ρ σ fun d' σ' => ∃ u, d' = .own u (([] : List α).map f) ∧ σ' = .row u ([] : List α).length e s :: σ := by
 obtain ⟨h1, h2, h3⟩ := qp9 hr
 exact qA0 ho hE hx hy h1 h2 h3
theorem qeS {t e : TypeId} {n s by_ : Nat} {parts : Array (Nat × Operand)} (xs : List Operand) (l : List α) (ho : o.op = .buildSlice t n parts) (hE : ElT P t e s by_) (hps : parts.toList = (xs.zipIdx 0).map fun x => (x.2, x.1)) (hn : n = xs.length) (hn0 : 0 < n) (hsm : n * s ≤ 16777216) (hO : zaf ρ xs (l.map f)) (hall : ∀ a, sz (f a) = s) (hpl : ∀ a, (f a).plain = true) : zD P o ρ (.full (l.map f)) :=
 qCs xs ho hE hps hn hn0 hsm hO (zbF hall) fun d hd => by
  obtain ⟨a, _, rfl⟩ := jA.1 hd
  exact hpl a
theorem qve {t e : TypeId} {x ix : Operand} {s by_ b lo n : Nat} {k : IntKind} {m : Int} {q : α} (l : List α) (ho : o.op = .indexAddr t x ix) (hE : ElT P t e s by_) (hx : ρ x = some (.arr b s lo n)) (hix : ρ ix = some (.int k m)) (hq : zj l m = some q) (hn : l.length = n) : zD P o ρ (.mref b (lo + m.toNat) s 0 []) := by
 obtain ⟨h0, h1⟩ := qb6 hq
 exact qvN m.toNat ho hE hx hix (by omega) (by rw [← hn]; exact (jr.1 h1).1)
end
/-! ### maps as lists of pairs -/
section
variable {α β : Type} [DecidableEq α]
def zp : List (α × β) → α → Option β
 | [], _ => none
 | q :: l, x => if q.1 = x then some q.2 else zp l x
def yS : List (α × β) → α → β → List (α × β)
 | [], x, d => [(x, d)]
 | q :: l, x, d => if q.1 = x then (x, d) :: l else q :: yS l x d
theorem qrZ (g : β → D) : ∀ (l : List (α × β)) (x : α), zao (l.map fun q => (q.1, g q.2)) x = (zp l x).map g
 | [], _ => rfl
 | q :: l, x => by
  simp only [jl, zao, zp]
  split
  · rfl
  · exact qrZ g l x
theorem quq (g : β → D) : ∀ (l : List (α × β)) (x : α) (d : β), zaX (l.map fun q => (q.1, g q.2)) x (g d) = (yS l x d).map fun q => (q.1, g q.2)
 | [], _, _ => rfl
 | q :: l, x, d => by
  simp only [jl, zaX, yS]
  split
  · rfl
  · rw [quq g l x d]; rfl
theorem qsE : ∀ (l : List (α × β)) (x y : α) (d : β), zp (yS l x d) y = if x = y then some d else zp l y
 | [], x, y, d => by simp [yS, zp]
 | q :: l, x, y, d => by
  simp only [yS]
  split
  · rename_i h
    simp only [zp]
    split
    · rfl
    · rename_i h2; rw [if_neg (by rw [h]; exact h2)]
  · rename_i h
    simp only [zp, qsE l x y d]
    by_cases h1 : q.1 = y
    · rw [if_pos h1, if_neg (fun h2 => h (h1.trans h2.symm)), if_pos h1]
    · rw [if_neg h1, if_neg h1]
theorem qtY : ∀ (l : List (α × β)) (x : α) (d : β), (yS l x d).length ≤ l.length + 1
 | [], _, _ => by simp [yS]
 | q :: l, x, d => by
  unfold yS
  split
  · simp
  · have := qtY l x d
    simp only [jg]
    omega
end
abbrev zu {α β : Type} (key : α → D) (g : β → D) (l : List (α × β)) : List (D × D) := l.map fun q => (key q.1, g q.2)
theorem qte {α β : Type} (key : α → D) (g : β → D) (l : List (α × β)) : zu key g l = za8 key (l.map fun q => (q.1, g q.2)) := by simp [jJ, Function.comp_def]
def zab {α β : Type} [DecidableEq α] (l : List (α × β)) (x : α) (d : β) : Option (List (α × β)) := if l.length < 9223372036854775807 then some (yS l x d) else none
theorem qvq {α β : Type} [DecidableEq α] {l r : List (α × β)} {x : α} {d : β} (h : zab l x d = some r) : l.length < 9223372036854775807 ∧ r = yS l x d := by
 unfold zab at h
 split at h
 · exact ⟨by assumption, (Option.some.inj h).symm⟩
 · cases h
def zbI (P : Program) (e : TypeId) (z : D) : Prop := ∃ zv, (P.info? e).map (·.zero) = some (some zv) ∧ ∀ p w, Rep p w z zv
section
variable {P : Program} {o : Oper} {ρ : Operand → Option D} {α β : Type} [DecidableEq α] {key : α → D} {g : β → D}
theorem qxv {t kt e : TypeId} {x y : Operand} {vk : α → Value} {d : Value → Prop} {r : Nat} {l : List (α × D)} {a0 : α} {z : D} {zv : Value} {σ : St} (ho : o.op = .lookup t x y false) (ht : P.underlying t = some (.map kt e)) (hK : zaD P kt key vk d) (hz : (P.info? e).map (·.zero) = some (some zv)) (hzr : ∀ p w, Rep p w z zv) (hx : ρ x = some (.map r)) (hy : ρ y = some (key a0)) (hσ : .map r (za8 key l) ∈ σ) :
 zB P o ρ σ fun d' σ' => d' = (zao l a0).getD z ∧ σ' = σ := fun K p a w hi h => by
 have h1 := h x (by rw [ho]; simp [Op.operands]) _ hx
 have h2 := hK.rep _ _ _ _ (h y (by rw [ho]; simp [Op.operands]) _ hy)
 have hgood : d (vk a0) := h2 ▸ hK.good _ _ _ _ (h y (by rw [ho]; simp [Op.operands]) _ hy)
 simp only [Rep] at h1
 obtain ⟨es, clock, g1, g2, _⟩ := hi.ok _ hσ
 obtain ⟨i, hi1, hi2⟩ := jS.1 hz
 have hc := hK.check w es.isEmpty (vk a0) hgood
 rcases qoF hK p w a0 z l es.toList 0 g2 with ⟨q1, q2, _⟩ | ⟨j, e', dv, q1, q2, q3, q4, q5, _⟩
 · have hf := (hK.find w (vk a0) es.toList hgood (qlE hK g2)).trans (by rw [q1])
   have hr : (execOp a.eval o).run P w = .ok (.value zv) w := by
    unfold execOp
    rw [ho]
    simp [h1, h2, Instr.lookup, run_underlying ht, MapKept.run_getObj_map g1, hc, hf, zeroValue, typeInfo, hi1, hi2]
   unfold Oper.wp
   rw [hr]
   refine ⟨_, _, _, p, rfl, ⟨rfl, rfl⟩, ?_, hi, zU.refl _ _⟩
   rw [q2]
   exact hzr p w
 · have hf := (hK.find w (vk a0) es.toList hgood (qlE hK g2)).trans (by rw [q1])
   have hr : (execOp a.eval o).run P w = .ok (.value e'.val) w := by
    unfold execOp
    rw [ho]
    simp [h1, h2, Instr.lookup, run_underlying ht, MapKept.run_getObj_map g1, hc, hf]
   unfold Oper.wp
   rw [hr]
   refine ⟨_, _, _, p, rfl, ⟨rfl, rfl⟩, ?_, hi, zU.refl _ _⟩
   rw [q4]
   exact q5
theorem qiZ {t kt e : TypeId} {x y : Operand} {vk : α → Value} {d : Value → Prop} {r : Nat} (l : List (α × β)) (a0 : α) (z : β) {σ : St} (ho : o.op = .lookup t x y false) (ht : P.underlying t = some (.map kt e)) (hK : zaD P kt key vk d) (hz : zbI P e (g z)) (hx : ρ x = some (.map r)) (hy : ρ y = some (key a0)) (hσ : .map r (zu key g l) ∈ σ) :
 zB P o ρ σ fun d' σ' => d' = g ((zp l a0).getD z) ∧ σ' = σ := by
 obtain ⟨zv, h1, h2⟩ := hz
 rw [qte] at hσ
 have := qxv ho ht hK h1 h2 hx hy hσ
 rw [qrZ] at this
 have e1 : ((zp l a0).map g).getD (g z) = g ((zp l a0).getD z) := by cases zp l a0 <;> rfl
 rwa [e1] at this
theorem qmi {t kt e : TypeId} {x y v : Operand} {vk : α → Value} {d : Value → Prop} {r : Nat} (l : List (α × β)) (a0 : α) (b0 : β) {l' : List (α × β)} {dn : D} {σ τ : St} (ho : o.op = .mapUpdate t x y v) (ht : P.underlying t = some (.map kt e)) (hK : zaD P kt key vk d) (hx : ρ x = some (.map r)) (hy : ρ y = some (key a0)) (hv : ρ v = some dn) (hw : Wk dn (g b0)) (hσ : σ.Perm (.map r (zu key g l) :: τ)) (hl : zab l a0 b0 = some l') :
 zB P o ρ σ fun _ σ' => σ' = .map r (zu key g l') :: τ := by
 obtain ⟨h1, rfl⟩ := qvq hl
 rw [qte] at hσ
 have := qtj τ ho ht hK hx hy hv hw hσ (by rw [jb]; exact h1)
 rwa [quq, ← qte] at this
end
theorem qoJ {P : Program} {o : Oper} {ρ : Operand → Option D} {α β : Type} {key : α → D} {g : β → D} {t : TypeId} {σ : St} (ho : o.op = .makeMap t none) : zB P o ρ σ fun d' σ' => ∃ r, d' = .map r ∧ σ' = .map r (zu key g ([] : List (α × β))) :: σ := qwU ho
/-! ### facts out of slots -/
section
variable {P : Program} {f : FuncId} {fn : Func} {K : Ctx} {R : D → St → Prop} {k : List Item} {env : Env} {σ : St}
theorem ql3 {m : Md} (s : Nat) (path : List Nat) {d0 dx : D} {l : List D} (hs : lk env s = some (.ptr d0)) (hp : yR d0 path = some dx) (hl : AsL dx l) (h : l.length ≤ 9223372036854775807 → zk m P f fn K R k env σ) : zk m P f fn K R k env σ :=
 qp4 (fun p a w _ hr => by
  have h1 := hr s _ hs
  simp only [Rep] at h1
  obtain ⟨b, o, u, _, _, h2, _⟩ := h1
  obtain ⟨v, h3, _⟩ := qju h2 hp
  obtain ⟨A, c, xs, _, g2, g3, _⟩ := hl.rep h3
  omega) h
theorem qzY {m : Md} (s : Nat) (path : List Nat) {d0 dx : D} {l : List D} (hs : lk env s = some d0) (hp : yR d0 path = some dx) (hl : AsL dx l) (h : l.length ≤ 9223372036854775807 → zk m P f fn K R k env σ) : zk m P f fn K R k env σ :=
 qp4 (fun p a w _ hr => by
  obtain ⟨v, h3, _⟩ := qju (hr s _ hs) hp
  obtain ⟨A, c, xs, _, g2, g3, _⟩ := hl.rep h3
  omega) h
theorem qnL {m : Md} (e : TypeId) (s : Nat) (h : zk m P f fn K R k env (.row (.slice none 0 0) ([] : List D).length e s :: σ)) : zk m P f fn K R k env σ := fun p a w hi =>
 h p a w (hi.more ⟨⟨[], World.ownsRow_nil w 0 e s⟩, fun g hg => by simp [Value.ownBlock] at hg⟩ (fun b hb => by simp [Ob.blk, Value.ownBlock] at hb))
theorem qoo {m : Md} {E : Env} {S : St} (hs : Sub E env) (hp : σ.Perm S) (h : zk m P f fn K R k E S) : zk m P f fn K R k env σ := qvH E hs (qcA S [] (by simpa using hp) h)
theorem qtU {m : Md} {a b : Code} (J : Env → St → Prop) (hJ : ∀ env σ, J env σ → zk m P f fn K R (.code b :: k) env σ) (h : (∀ env σ, J env σ → zk m P f fn K R (.code b :: k) env σ) → zk m P f fn K R (.code a :: .code b :: k) env σ) : zk m P f fn K R (.code (.seq a b) :: k) env σ := qe (h hJ)
theorem zaq {X : Env → D → St → Prop} {Q : Env → St → Prop} {l : List Oper} {rest : List (Nat × Cls)} (σ' : St) (hs : σ = σ') (h : Run P l.toArray X Q rest env σ') : Run P l.toArray X Q rest env σ := hs ▸ h
end
section
variable {P : Program} {o : Oper} {ρ : Operand → Option D} {d : D}
theorem qyo {t : TypeId} {x : Operand} {k : IntKind} {m : Int} (ho : o.op = .unOp .neg t x) (hx : ρ x = some (.int k m)) : zD P o ρ (.int k (k.wrap (-m))) := qeg fun p a w h => by
 have h1 := h x (by rw [ho]; simp [Op.operands]) _ hx
 simp only [Rep] at h1
 refine ⟨.int k (k.wrap (-m)), ?_, by simp only [Rep]; exact ⟨trivial, qmr k _⟩⟩
 unfold execOp
 rw [ho]
 simp [h1.1, Op.unary, Op.intArith]
theorem qBW {t t' : TypeId} {x y : Operand} {m n : Int} (ho : o.op = .binOp .quo t x y t') (hx : ρ x = some (.int .i64 m)) (hy : ρ y = some (.int .i64 n)) (hn : n ≠ 0) : zD P o ρ (.int .i64 (wr (Int.tdiv m n))) := qeg fun p a w h => by
 have h1 := h x (by rw [ho]; simp [Op.operands]) _ hx
 have h2 := h y (by rw [ho]; simp [Op.operands]) _ hy
 simp only [Rep] at h1 h2
 refine ⟨.int .i64 (wr (Int.tdiv m n)), ?_, by simp only [Rep]; exact ⟨trivial, qmr _ _⟩⟩
 unfold execOp
 rw [ho]
 simp only [h1.1, h2.1]
 simp [binOp, eqGuard, Op.intDiv, hn, wr]
def yu (m n : Int) : Int := if n < m then n else m
def zak (m n : Int) : Int := if n > m then n else m
theorem qqW (m n : Int) : yu m n = min m n := by unfold yu; omega
theorem qyt {t t' : TypeId} {x y : Operand} {m n : Int} (ho : o.op = .call { callee := .builtin .min, args := #[x, y], argTypes := #[t, t'] }) (hx : ρ x = some (.int .i64 m)) (hy : ρ y = some (.int .i64 n)) : zD P o ρ (.int .i64 (yu m n)) := qeg fun p a w h => by
 have h1 := h x (by rw [ho]; simp [Op.operands, Call.operands]) _ hx
 have h2 := h y (by rw [ho]; simp [Op.operands, Call.operands]) _ hy
 simp only [Rep] at h1 h2
 refine ⟨.int .i64 (yu m n), ?_, by simp only [Rep]; exact ⟨trivial, by unfold yu; split; exact h2.2; exact h1.2⟩⟩
 unfold execOp
 rw [ho]
 simp [resolve, invoke, builtin, h1.1, h2.1, Builtin.min_, Builtin.min2, yu]
theorem qBM {t t' : TypeId} {x y : Operand} {m n : Int} (ho : o.op = .call { callee := .builtin .max, args := #[x, y], argTypes := #[t, t'] }) (hx : ρ x = some (.int .i64 m)) (hy : ρ y = some (.int .i64 n)) : zD P o ρ (.int .i64 (zak m n)) := qeg fun p a w h => by
 have h1 := h x (by rw [ho]; simp [Op.operands, Call.operands]) _ hx
 have h2 := h y (by rw [ho]; simp [Op.operands, Call.operands]) _ hy
 simp only [Rep] at h1 h2
 refine ⟨.int .i64 (zak m n), ?_, by simp only [Rep]; exact ⟨trivial, by unfold zak; split; exact h2.2; exact h1.2⟩⟩
 unfold execOp
 rw [ho]
 simp [resolve, invoke, builtin, h1.1, h2.1, Builtin.max_, Builtin.max2, zak]
theorem qP {x : Operand} {b off : Nat} {path : List Nat} (ho : o.op = .nilCheck x) (hx : ρ x = some (.ref b off path)) : zD P o ρ (.ref b off path) := qeg fun p a w h => by
 have h1 := h x (by rw [ho]; simp [Op.operands]) _ hx
 refine ⟨a.eval x, ?_, h1⟩
 simp only [Rep] at h1
 unfold execOp
 rw [ho]
 simp [h1]
end
def yW {V R : Type} (F : V → Option R) : R ⊕ V → Option R
 | .inl r => some r
 | .inr v => F v
def zP {Q V R : Type} (B : Q → V → Option (R ⊕ V)) (k : V → Option R) : List Q → V → Option R
 | [], v => k v
 | q :: l, v => (B q v).bind (yW (zP B k l))
open Classical in
noncomputable def zap {Q R : Type} (F : List Q → Option R) (l : List Q) : Option R := if ∀ l' : List Q, l'.Perm l → F l' = F l then F l else none
theorem qv2 {Q R : Type} {F : List Q → Option R} {l : List Q} {r : R} (h : zap F l = some r) : ∀ l' : List Q, l'.Perm l → F l' = some r := by
 unfold zap at h
 split at h
 · rename_i h1
   exact fun l' hp => (h1 l' hp).trans h
 · cases h
theorem qyZ {Q R : Type} {F : List Q → Option R} {l : List Q} {r : R} (h : ∀ l' : List Q, l'.Perm l → F l' = some r) : zap F l = some r := by
 have h0 := h l (.refl _)
 unfold zap
 rw [if_pos fun l' hp => (h l' hp).trans h0.symm]
 exact h0
theorem zbR {Q V R : Type} {B : Q → V → Option (R ⊕ V)} {k : V → Option R} {q : Q} {L l : List Q} {v : V} {r : R} (hp : L.Perm (q :: l)) (h : ∀ l' : List Q, l'.Perm L → zP B k l' v = some r) : ∃ z, B q v = some z ∧ ∀ l' : List Q, l'.Perm l → yW (zP B k l') z = some r := by
 have h1 : ∀ l' : List Q, l'.Perm l → zP B k (q :: l') v = some r := fun l' hl => h (q :: l') ((hl.cons q).trans hp.symm)
 obtain ⟨z, hz, _⟩ := za (show (B q v).bind (yW (zP B k l)) = some r from h1 l (.refl _))
 refine ⟨z, hz, fun l' hl => ?_⟩
 have h2 : (B q v).bind (yW (zP B k l')) = some r := h1 l' hl
 rw [hz] at h2
 exact h2
theorem mapEnd {Q V R : Type} {B : Q → V → Option (R ⊕ V)} {k : V → Option R} {L : List Q} {v : V} {r : R} (hp : L = []) (h : ∀ l' : List Q, l'.Perm L → zP B k l' v = some r) : k v = some r := by
 subst hp
 exact h [] (.refl _)
theorem mapOut {Q R V : Type} {B : Q → V → Option (R ⊕ V)} {k : V → Option R} {L : List Q} {x : Option R} {z : R ⊕ V} {r : R} (h : ∀ l' : List Q, l'.Perm L → yW (zP B k l') z = some r) (hx : x.map Sum.inl = some z) : x = some r := by
 cases x with
 | none => cases hx
 | some y =>
  obtain rfl := Option.some.inj hx
  exact h L (.refl _)
theorem zbd {Q R V : Type} {B : Q → V → Option (R ⊕ V)} {k : V → Option R} {L : List Q} {v : V} {z : R ⊕ V} {r : R} (h : ∀ l' : List Q, l'.Perm L → yW (zP B k l') z = some r) (hx : some (Sum.inr v) = some z) : ∀ l' : List Q, l'.Perm L → zP B k l' v = some r := by
 obtain rfl := Option.some.inj hx
 exact h
def zav {Q : Type} (es : Array MapEntry) (seen : Array Nat) (l : List Q) : List Q := ((es.toList.zip l).filter fun x => !seen.contains x.1.born).map (·.2)
def CurE {Q : Type} (es : Array MapEntry) (l : List Q) (e : MapEntry) (q : Q) : Prop := ∃ i : Nat, es.toList[i]? = some e ∧ l[i]? = some q
theorem qtC {Q : Type} {es : Array MapEntry} {l : List Q} (h : es.size = l.length) : zav es #[] l = l := by
 unfold zav
 rw [vR.2 (fun x _ => by simp)]
 rw [List.map_snd_zip]
 simp [← h]
theorem qoa {p : Addr → Prop} {w : World} : ∀ {kv : List (D × D)} {es : List MapEntry}, zZ p w kv es → es.length = kv.length
 | [], _, h => by simp only [zZ] at h; subst h; rfl
 | (k, d) :: kv, es, h => by
  simp only [zZ] at h
  obtain ⟨e, rest, rfl, _, _, h3⟩ := h
  simp [qoa h3]
theorem qrB {p : Addr → Prop} {w : World} : ∀ {kv : List (D × D)} {es : List MapEntry} {i : Nat} {e : MapEntry} {k d : D}, zZ p w kv es → es[i]? = some e → kv[i]? = some (k, d) → Rep p w k e.key ∧ Rep p w d e.val
 | [], _, i, _, _, _, _, _, h => by cases i <;> cases h
 | (k, d) :: kv, es, i, e, k', d', h, h1, h2 => by
  simp only [zZ] at h
  obtain ⟨e0, rest, rfl, g1, g2, g3⟩ := h
  cases i with
  | zero =>
   simp only [vy, Option.some.injEq, Prod.mk.injEq] at h1 h2
   obtain ⟨rfl, rfl⟩ := h2
   subst h1
   exact ⟨g1, g2⟩
  | succ i =>
   simp only [vD] at h1 h2
   exact qrB g3 h1 h2
theorem qow {a : Array Nat} {x y : Nat} : (a.push x).contains y = (a.contains y || decide (y = x)) := by
 rw [jN]
 simp [Array.mem_push]
theorem qqo {Q : Type} : ∀ (es : List MapEntry) (l : List Q) (seen : Array Nat) (i : Nat) (e : MapEntry) (q : Q), (es.map (·.born)).Nodup → es[i]? = some e → l[i]? = some q → seen.contains e.born = false →
 (((es.zip l).filter fun x => !seen.contains x.1.born).map (·.2)).Perm (q :: ((es.zip l).filter fun x => !(seen.push e.born).contains x.1.born).map (·.2))
 | [], _, _, i, _, _, _, h, _, _ => by cases i <;> cases h
 | _ :: _, [], _, i, _, _, _, _, h, _ => by cases i <;> cases h
 | a :: es, b :: l, seen, i, e, q, hn, h1, h2, h3 => by
  simp only [jl, jO] at hn
  simp only [List.zip_cons_cons]
  cases i with
  | zero =>
   simp only [vy, Option.some.injEq] at h1 h2
   subst h1 h2
   rw [Jc (by rw [h3]; rfl), Jd (by simp)]
   have : (es.zip l).filter (fun x => !seen.contains x.1.born) = (es.zip l).filter (fun x => !(seen.push a.born).contains x.1.born) := List.filter_congr fun x hx => by
    have hne : x.1.born ≠ a.born := fun e => hn.1 (e ▸ jF (f := (·.born)) (List.of_mem_zip (show (x.1, x.2) ∈ es.zip l from hx)).1)
    rw [qow, decide_eq_false hne, Bool.or_false]
   rw [jl, this]
  | succ i =>
   simp only [vD] at h1 h2
   have ih := qqo es l seen i e q hn.2 h1 h2 h3
   have hne : a.born ≠ e.born := fun he => hn.1 (he ▸ jF (f := (·.born)) (List.mem_of_getElem? h1))
   cases hs : seen.contains a.born with
   | true =>
    rw [Jd (by rw [hs]; decide), Jd (by rw [qow, hs]; simp)]
    exact ih
   | false =>
    rw [Jc (by rw [hs]; rfl), Jc (by rw [qow, hs, decide_eq_false hne]; rfl)]
    exact (ih.cons b).trans (List.Perm.swap q b _)
section
variable {P : Program} {o : Oper} {ρ : Operand → Option D} {α β : Type} {key : α → D} {g : β → D}
theorem qAv {t kt e : TypeId} {x : Operand} {r : Nat} {l : List (α × β)} {σ τ : St} (ho : o.op = .range t x) (ht : P.underlying t = some (.map kt e)) (hx : ρ x = some (.map r)) (hσ : σ.Perm (.map r (zu key g l) :: τ)) :
 zB P o ρ σ fun d' σ' => ∃ b es cl, d' = .ref b 0 [] ∧ σ' = .iter b r cl #[] cl :: .mapE r (zu key g l) es cl :: τ ∧ es.size = l.length := fun K p a w hi h => by
 have h1 := h x (by rw [ho]; simp [Op.operands]) _ hx
 simp only [Rep] at h1
 have hi' := hi.perm hσ
 obtain ⟨es, cl, g1, g2, g3, g4, g5⟩ := hi'.ok _ (jd ..)
 have hr : (execOp a.eval o).run P w = .ok (.value (.pointer (some ⟨w.heap.size, 0, none⟩))) (w.alloc (.mapIter (some r) cl #[] cl)) := by
  unfold execOp
  rw [ho]
  simp [h1, run_range_map w t kt e r es cl ht g1]
 unfold Oper.wp
 rw [hr]
 have hi2 : Inv K p (.mapE r (zu key g l) es cl :: τ) w := ⟨fun o' ho' => by
  rcases jh.1 ho' with rfl | ho'
  · exact ⟨g1, g2, g3, g4, g5⟩
  · exact hi'.ok _ (je _ ho'), hi'.nd, hi'.mine, hi'.pub, hi'.gr, hi'.neu, hi'.os, hi'.tape, hi'.output, hi'.size, hi'.block⟩
 refine ⟨_, .ref w.heap.size 0 [], _, p, rfl, ⟨w.heap.size, es, cl, rfl, rfl, ?_⟩, by simp only [Rep], ?_, qfM hi.pub _⟩
 · have := qoa g2
   simpa using this
 refine (hi2.alloc _).more (heap_alloc_new w _) fun b hb => ?_
 simp only [Ob.blk, Option.some.injEq] at hb
 subst hb
 exact ⟨.inl hi.size, fun hm => by have := hi2.lt hm; omega⟩
theorem qsp {K : Ctx} {p : Addr → Prop} {w : World} {τ : St} {b r c : Nat} {seen : Array Nat} {last : Nat} {kv : List (D × D)} {es : Array MapEntry} {cl : Nat} (hi : Inv K p (.iter b r c seen last :: .mapE r kv es cl :: τ) w) : Inv K p (.map r kv :: τ) w :=
 let hi' := hi.tail
 ⟨fun o' ho' => by
  rcases jh.1 ho' with rfl | ho'
  · obtain ⟨g1, g2, g3, g4, g5⟩ := hi'.ok _ (jd ..)
    exact ⟨es, cl, g1, g2, g3, g4, g5⟩
  · exact hi'.ok _ (je _ ho'), hi'.nd, hi'.mine, hi'.pub, hi'.gr, hi'.neu, hi'.os, hi'.tape, hi'.output, hi'.size, hi'.block⟩
theorem qBr {x : Operand} {b r cl last : Nat} {seen : Array Nat} {es : Array MapEntry} {l : List (α × β)} {σ τ : St} (ho : o.op = .next x false) (hx : ρ x = some (.ref b 0 [])) (hσ : σ.Perm (.iter b r cl seen last :: .mapE r (zu key g l) es cl :: τ)) (hl : cl ≤ last) :
 zB P o ρ σ fun d' σ' => (zav es seen l = [] ∧ d' = .tup [.bool false] ∧ σ' = .map r (zu key g l) :: τ) ∨ ∃ (q : α × β) (e : MapEntry), (zav es seen l).Perm (q :: zav es (seen.push e.born) l) ∧ CurE es l e q ∧ d' = .tup [.bool true, key q.1, g q.2] ∧ σ' = .iter b r cl (seen.push e.born) cl :: .mapE r (zu key g l) es cl :: τ := fun K p a w hi h => by
 have h1 := h x (by rw [ho]; simp [Op.operands]) _ hx
 simp only [Rep] at h1
 have hi' := hi.perm hσ
 have i1 : w.heap[b]? = some (.mapIter (some r) cl seen last) := hi'.ok _ (jd ..)
 obtain ⟨g1, g2, g3, g4, g5⟩ := hi'.ok _ (je _ (jd ..))
 have hlen := qoa g2
 rcases run_next_at (P := P) w o.type b r cl last seen es cl i1 g1 g5 hl with ⟨e0, hr⟩ | ⟨e, he, w1, hw1, hr⟩
 · have hr' : (execOp a.eval o).run P w = .ok (.value (.tuple #[.bool false])) w := by
    unfold execOp
    rw [ho]
    simp [h1, hr]
   unfold Oper.wp
   rw [hr']
   refine ⟨_, .tup [.bool false], _, p, rfl, .inl ⟨?_, rfl, rfl⟩, ?_, qsp hi', zU.refl _ _⟩
   · unfold zav
     unfold leftOf at e0
     have e1 : es.filter (fun e => !seen.contains e.born) = #[] := Array.eq_empty_of_size_eq_zero e0
     rw [Array.filter_eq_empty_iff] at e1
     rw [List.map_eq_nil_iff, List.filter_eq_nil_iff]
     intro x hx
     exact e1 x.1 (by simpa using (List.of_mem_zip (show (x.1, x.2) ∈ es.toList.zip l from hx)).1)
   · simp only [Rep, zG]
     exact ⟨[.bool false], rfl, _, _, rfl, rfl, rfl⟩
 · have hr' : (execOp a.eval o).run P w = .ok (.value (.tuple #[.bool true, e.key, e.val])) (ChangeMaps.setBlock w1 b (.mapIter (some r) cl (seen.push e.born) cl)) := by
    unfold execOp
    rw [ho]
    simp [h1, hr]
   unfold Oper.wp
   rw [hr']
   have he' : e ∈ es.toList ∧ seen.contains e.born = false := by
    unfold leftOf at he
    simpa using he
   obtain ⟨i, hi1⟩ := List.getElem?_of_mem he'.1
   have hil : i < l.length := by
    have := (jr.1 hi1).1
    simp only [jb] at hlen
    omega
   have hq : l[i]? = some l[i] := jq hil
   obtain ⟨rk, rv⟩ := qrB (k := key l[i].1) (d := g l[i].2) g2 hi1 (by simp [zu, hq])
   have hiw : Inv K p (.iter b r cl seen last :: .mapE r (zu key g l) es cl :: τ) w1 ∧ zU p w p w1 := by
    rcases hw1 with rfl | rfl
    · exact ⟨hi', zU.refl _ _⟩
    · exact ⟨hi'.drew, qin p w⟩
   have j1 : w1.heap[b]? = some (.mapIter (some r) cl seen last) := hiw.1.ok _ (jd ..)
   have hset := MapKept.heap_set (o' := .mapIter (some r) cl (seen.push e.born) cl) j1
   have gr : zU p w1 p (ChangeMaps.setBlock w1 b (.mapIter (some r) cl (seen.push e.born) cl)) := fun a' ha => ⟨ha, qis (hset.2 _ (by
    intro e'
    obtain ⟨u, hu⟩ := hiw.1.pub a' ha
    unfold World.cell? at hu
    rw [e', j1] at hu
    cases hu))⟩
   have g' := hiw.2.tr gr
   refine ⟨_, .tup [.bool true, key l[i].1, g l[i].2], _, p, rfl, .inr ⟨l[i], e, qqo es.toList l seen i e l[i] g4 hi1 hq he'.2, ⟨i, hi1, hq⟩, rfl, rfl⟩, ?_, ?_, g'⟩
   · simp only [Rep, zG]
     exact ⟨[.bool true, e.key, e.val], rfl, .bool true, _, rfl, rfl, e.key, _, rfl, rk.grow g', e.val, _, rfl, rv.grow g', rfl⟩
   · refine hiw.1.write (b := b) rfl rfl gr (fun a' ha => .inl ha) hset.1 (fun a' ha => ?_) rfl rfl rfl (by simp [ChangeMaps.setBlock]) fun k hk => hset.2 k hk
     obtain ⟨u, hu⟩ := hiw.1.pub a' ha
     exact ⟨u, by rw [(gr a' ha).2]; exact hu⟩
theorem qA7 {x : Operand} {b r cl : Nat} {seen : Array Nat} {es : Array MapEntry} {l : List (α × β)} {q : α × β} {e : MapEntry} {σ : St} (ho : o.op = .entry x) (hx : ρ x = some (.ref b 0 [])) (h1 : .iter b r cl (seen.push e.born) cl ∈ σ) (h2 : .mapE r (zu key g l) es cl ∈ σ) (hc : CurE es l e q) :
 zB P o ρ σ fun d' σ' => d' = .tup [key q.1, g q.2] ∧ σ' = σ := fun K p a w hi h => by
 have h3 := h x (by rw [ho]; simp [Op.operands]) _ hx
 simp only [Rep] at h3
 have i1 : w.heap[b]? = some (.mapIter (some r) cl (seen.push e.born) cl) := hi.ok _ h1
 obtain ⟨g1, g2, g3, g4, g5⟩ := hi.ok _ h2
 obtain ⟨i, c1, c2⟩ := hc
 have hr : (execOp a.eval o).run P w = .ok (.value (.tuple #[e.key, e.val])) w := by
  unfold execOp
  rw [ho]
  simp [h3, run_entry_at (P := P) w b r cl seen es cl e i1 g1 (List.mem_of_getElem? c1) g4]
 obtain ⟨rk, rv⟩ := qrB (k := key q.1) (d := g q.2) g2 c1 (by simp [zu, c2])
 unfold Oper.wp
 rw [hr]
 refine ⟨_, _, _, p, rfl, ⟨rfl, rfl⟩, ?_, hi, zU.refl _ _⟩
 simp only [Rep, zG]
 exact ⟨[e.key, e.val], rfl, e.key, _, rfl, rk, e.val, _, rfl, rv, rfl⟩
end
section
variable {P : Program} {f : FuncId} {fn : Func} {K : Ctx} {R : D → St → Prop} {k : List Item} {env : Env} {σ τ : St}
theorem qvt {m : Md} {b r c : Nat} {seen : Array Nat} {last : Nat} {kv : List (D × D)} {es : Array MapEntry} {cl : Nat} (hσ : σ.Perm (.iter b r c seen last :: .mapE r kv es cl :: τ)) (h : zk m P f fn K R k env (.map r kv :: τ)) : zk m P f fn K R k env σ := fun p a w hi hr => h p a w (qsp (hi.perm hσ)) hr
end
/-! ### lists that are appended to and written -/
section
variable {P : Program} {o : Oper} {ρ : Operand → Option D} {α : Type} {f : α → D}
theorem qzx {x y : Operand} {t e : TypeId} {s by_ n : Nat} {σ τ : St} {u : Value} (l m : List α) {r : List α} {dy : D} (ho : o.op = .call { callee := .builtin .append, args := #[x, y], argTypes := #[t, t] }) (hE : ElT P t e s by_) (hx : ρ x = some (.vec u n)) (hy : ρ y = some dy) (hm : AsL dy (m.map f)) (hσ : σ.Perm (.vec u (l.map f) e s :: τ)) (hall : ∀ a, sz (f a) = s) (hr : zN by_ l m = some r) :
 zB P o ρ σ fun d' σ' => ∃ u', d' = .vec u' r.length ∧ σ' = .vec u' (r.map f) e s :: τ := by
 obtain ⟨h1, h2, rfl⟩ := qsH hr
 have h := qzs (P := P) (o := o) (ρ := ρ) (σ := σ) (τ := τ) (u := u) (l := l.map f) (m := m.map f) ho hE hx hy hm hσ (zbF hall) (by simpa using h1) (by simpa using h2)
 rw [← jM, jb] at h
 exact h
theorem qfm {t e : TypeId} {x ix : Operand} {s by_ n : Nat} {u : Value} {k : IntKind} {m : Int} {q : α} {σ : St} (l : List α) (ho : o.op = .indexAddr t x ix) (hE : ElT P t e s by_) (hx : ρ x = some (.vec u n)) (hix : ρ ix = some (.int k m)) (hq : zj l m = some q) (hσ : .vec u (l.map f) e s ∈ σ) : zB P o ρ σ fun d' σ' => d' = .mref (zaY u) m.toNat s 0 [] ∧ σ' = σ := by
 obtain ⟨h0, h1⟩ := qb6 hq
 exact qvK m.toNat ho hE hx hix (by omega) (by rw [jb]; exact (jr.1 h1).1) hσ
end
theorem subT3 (t : T) : yR (zi t) [3] = some (.lst (t.ar.map zi)) := by
 simp [yR, zi, qdQ]
section
variable {P : Program} {f : FuncId} {fn : Func} {K : Ctx} {R : D → St → Prop} {k : List Item} {env : Env} {σ : St}
theorem quf {m : Md} {b : Nat} (path : List Nat) {d0 dx : D} {l : List D} (hσ : .cell b d0 ∈ σ) (hp : yR d0 path = some dx) (hl : AsL dx l) (h : l.length ≤ 9223372036854775807 → zk m P f fn K R k env σ) : zk m P f fn K R k env σ :=
 qp4 (fun p a w hi _ => by
  obtain ⟨v0, ty, h1, _⟩ := hi.ok _ hσ
  obtain ⟨v, h3, _⟩ := qju h1 hp
  obtain ⟨A, c, xs, _, g2, g3, _⟩ := hl.rep h3
  omega) h
end
theorem ifS {α : Type} {c : Prop} [Decidable c] {a b : α} (h : (if c then some a else none) = some b) : c ∧ a = b := by
 split at h
 · exact ⟨by assumption, Option.some.inj h⟩
 · cases h
noncomputable def qjz (t : T) : Option (Bool) := if wt t ≤ 1000000000 then some (zM t) else none
theorem qia (t : T) (h : wt t ≤ 1000000000) : qjz t = some (zM t) := if_pos h
theorem qdm (t : T) (res : Bool) (h : qjz t = some res) : zf Tryz.prog 80 [zi t] (.bool res) := by
 obtain ⟨h1, rfl⟩ := ifS h
 exact qsZ 1000000000 (jk _) t h1
noncomputable def qlN (t : T) (u : T) : Option (Bool) := if wt t ≤ 1000000000 then some (yO t u) else none
theorem qqi (t : T) (u : T) (h : wt t ≤ 1000000000) : qlN t u = some (yO t u) := if_pos h
theorem qe7 (t : T) (u : T) (res : Bool) (h : qlN t u = some res) : zf Tryz.prog 140 [zi t, zi u] (.bool res) := by
 obtain ⟨h1, rfl⟩ := ifS h
 exact qvw 1000000000 (jk _) t u h1
noncomputable def qih (a : At) : Option (Bool) := if wtL a.ts ≤ 1000000000 then some (zn a) else none
theorem qgn (a : At) (h : wtL a.ts ≤ 1000000000) : qih a = some (zn a) := if_pos h
theorem qid (a : At) (res : Bool) (h : qih a = some res) : zf Tryz.prog 57 [zX a] (.bool res) := by
 obtain ⟨h1, rfl⟩ := ifS h
 exact qm1 1000000000 (jk _) a h1
theorem qef (a : At) (res : Bool) (h : qih a = some res) : zf Tryz.prog 54 [zX a] (.bool res) := by
 obtain ⟨h1, rfl⟩ := ifS h
 exact qnN 1000000000 (jk _) a h1
noncomputable def qiQ (a : Gl) : Option (Bool) := if wtL a.ts ≤ 1000000000 then some (zz a) else none
theorem qhf (a : Gl) (h : wtL a.ts ≤ 1000000000) : qiQ a = some (zz a) := if_pos h
theorem qcd (a : Gl) (res : Bool) (h : qiQ a = some res) : zf Tryz.prog 22 [zA a] (.bool res) := by
 obtain ⟨h1, rfl⟩ := ifS h
 exact qoU 1000000000 (jk _) a h1
noncomputable def qs5 (a : Gl) (b : Gl) : Option (Bool) := if wtL a.ts ≤ 1000000000 then some (yZ a b) else none
theorem qvO (a : Gl) (b : Gl) (h : wtL a.ts ≤ 1000000000) : qs5 a b = some (yZ a b) := if_pos h
theorem qjc (a : Gl) (b : Gl) (res : Bool) (h : qs5 a b = some res) : zf Tryz.prog 121 [zA a, zA b] (.bool res) := by
 obtain ⟨h1, rfl⟩ := ifS h
 exact qpf 1000000000 (jk _) a b h1
noncomputable def qlK (s : ByteArray) : Option (Bool) := if s.size ≤ 9223372036854775807 then some (zF s) else none
theorem qhw (s : ByteArray) (res : Bool) (h : qlK s = some res) : zf Tryz.prog 41 [.str s] (.bool res) := by
 obtain ⟨h1, rfl⟩ := ifS h
 exact qtb s h1
noncomputable def qh9 (a : At) : Option (List Int) := if wtL a.ts ≤ 1000000000 then some (yj [] (zw a.ts)) else none
theorem qiR (a : At) (h : wtL a.ts ≤ 1000000000) : qh9 a = some (yj [] (zw a.ts)) := if_pos h
theorem qha (a : At) (res : List Int) (h : qh9 a = some res) : zf Tryz.prog 40 [zX a] (encI res) := by
 obtain ⟨h1, rfl⟩ := ifS h
 exact qnr 1000000000 (jk _) a h1
noncomputable def qmg (t : T) : Option (Int) := if wt t ≤ 1000000000 then some (((zl t : Nat) : Int)) else none
theorem qlR (t : T) (h : wt t ≤ 1000000000) : qmg t = some (((zl t : Nat) : Int)) := if_pos h
theorem qsF (t : T) (res : Int) (h : qmg t = some res) : zf Tryz.prog 58 [zi t] (.int .i64 res) := by
 obtain ⟨h1, rfl⟩ := ifS h
 exact qsi 1000000000 (jk _) t h1
theorem qfY (t : T) (res : Int) (h : qmg t = some res) : zf Tryz.prog 34 [zi t] (.int .i64 res) := by
 obtain ⟨h1, rfl⟩ := ifS h
 exact qvb 1000000000 (jk _) t h1
def zr (x : Int × At) : D := .agg [.int .i64 x.1, zX x.2]
theorem qhY (a : At) : sz (zX a) = 2 := rfl
theorem qgW (a : Gl) : sz (zA a) = 3 := rfl
theorem qf2 (x : Int × At) : sz (zr x) = 3 := rfl
inductive Wks : List D → List D → Prop
 | nil : Wks [] []
 | cons {d e : D} {ds es : List D} (h : Wk d e) (k : Wks ds es) : Wks (d :: ds) (e :: es)
theorem Wks.reps {ds es : List D} (h : Wks ds es) : ∀ {p : Addr → Prop} {w : World} {xs : List Value}, zx p w ds xs → zx p w es xs := by
 induction h with
 | nil => exact fun h => h
 | cons h _ ih =>
  intro p w xs hr
  simp only [zx] at hr ⊢
  obtain ⟨v, rest, h1, h2, h3⟩ := hr
  exact ⟨v, rest, h1, h _ _ _ h2, ih h3⟩
theorem Wk.agg {ds es : List D} (h : Wks ds es) : Wk (.agg ds) (.agg es) := fun p w v hv => by
 simp only [Rep] at hv ⊢
 obtain ⟨cs, h1, h2, h3⟩ := hv
 exact ⟨cs, h1, h.reps h2, h3⟩
inductive Ins (d0 : D) : D → Prop
 | refl : Ins d0 d0
 | ptr {d : D} (h : Ins d0 (.ptr d)) : Ins d0 d
 | sub {d dx : D} (h : Ins d0 d) (path : List Nat) (hp : yR d path = some dx) : Ins d0 dx
 | el {d dx : D} {l : List D} (h : Ins d0 d) (hl : AsL d l) (hm : dx ∈ l) : Ins d0 dx
theorem qt6 {p : Addr → Prop} {w : World} : ∀ {l : List D} {xs : List Value}, zx p w l xs → ∀ d ∈ l, ∃ v, Rep p w d v
 | [], _, _, _, h => by cases h
 | d :: l, xs, h, x, hx => by
  simp only [zx] at h
  obtain ⟨v, rest, _, h1, h2⟩ := h
  rcases jh.1 hx with rfl | hx
  · exact ⟨v, h1⟩
  · exact qt6 h2 x hx
theorem qAd {p : Addr → Prop} {w : World} {d0 dx : D} {v0 : Value} (h0 : Rep p w d0 v0) (h : Ins d0 dx) : ∃ v, Rep p w dx v := by
 induction h with
 | refl => exact ⟨v0, h0⟩
 | ptr _ ih =>
  obtain ⟨v, hv⟩ := ih
  simp only [Rep] at hv
  obtain ⟨b, o, u, _, _, h2, _⟩ := hv
  exact ⟨u, h2⟩
 | sub _ path hp ih =>
  obtain ⟨v, hv⟩ := ih
  obtain ⟨u, h3, _⟩ := qju hv hp
  exact ⟨u, h3⟩
 | el _ hl hm ih =>
  obtain ⟨v, hv⟩ := ih
  obtain ⟨A, c, xs, _, _, _, _, h4, _⟩ := hl.rep hv
  exact qt6 h4 _ hm
theorem ql4 {P : Program} {o : Oper} {ρ : Operand → Option D} {α : Type} {t e : TypeId} {x ix : Operand} {s by_ b n : Nat} {k : IntKind} {m : Int} {q : α} (l : List α) (ho : o.op = .indexAddr t x ix) (hE : ElT P t e s by_) (hx : ρ x = some (.arr b s 0 n)) (hix : ρ ix = some (.int k m)) (hq : zj l m = some q) (hn : l.length = n) : zD P o ρ (.mref b m.toNat s 0 []) := by
 have := qve l ho hE hx hix hq hn
 rwa [jt] at this
theorem qeK {α : Type} {l : List α} {i : Int} {q : α} (h : zj l i = some q) : q ∈ l := List.mem_of_getElem? (qb6 h).2
section
variable {P : Program} {f : FuncId} {fn : Func} {K : Ctx} {R : D → St → Prop} {k : List Item} {env : Env} {σ : St}
theorem qBQ {m : Md} (s : Nat) {d0 dx : D} {l : List D} (hs : lk env s = some d0) (hi : Ins d0 dx) (hl : AsL dx l) (h : l.length ≤ 9223372036854775807 → zk m P f fn K R k env σ) : zk m P f fn K R k env σ :=
 qp4 (fun p a w _ hr => by
  obtain ⟨v, h3⟩ := qAd (hr s _ hs) hi
  obtain ⟨A, c, xs, _, g2, g3, _⟩ := hl.rep h3
  omega) h
end
theorem Inv.of {K K' : Ctx} {p : Addr → Prop} {σ : St} {w : World} (h0 : K'.w0 = K.w0) (hp : K'.p0 = K.p0) (hF : K'.F0 = K.F0) (h : Inv K p σ w) : Inv K' p σ w := by
 obtain ⟨w0, p0, F0, X⟩ := K
 obtain ⟨w0', p0', F0', X'⟩ := K'
 simp only at h0 hp hF
 subst h0 hp hF
 exact ⟨h.ok, h.nd, h.mine, h.pub, h.gr, h.neu, h.os, h.tape, h.output, h.size, h.block⟩
section
variable {P : Program} {f : FuncId} {fn : Func} {ds : List D} {σ : St} {R : D → St → Prop} {X : D → Prop}
end
section
variable {P : Program} {o : Oper} {ρ : Operand → Option D} {d : D} {σ : St}
end
section
variable {P : Program} {o : Oper} {ρ : Operand → Option D}
theorem qnH {α : Type} {f : α → D} {σ : St} {t e : TypeId} {n s by_ : Nat} {parts : Array (Nat × Operand)} (xs : List Operand) (l : List α) (ho : o.op = .buildSlice t n parts) (hE : ElT P t e s by_) (hps : parts.toList = (xs.zipIdx 0).map fun x => (x.2, x.1)) (hn : n = xs.length) (hn0 : 0 < n) (hsm : n * s ≤ 16777216) (hO : zaf ρ xs (l.map f)) (hall : ∀ a, sz (f a) = s) (hpl : ∀ a, (f a).plain = true) :
 zB P o ρ σ fun d' σ' => ∃ u, d' = .own u (l.map f) ∧ σ' = .row u l.length e s :: σ := fun K p a w hi h => by
 obtain ⟨hu, ⟨z, hz, hzs⟩, hs0⟩ := hE
 have hmem : ∀ x ∈ xs, x ∈ o.op.operands := fun x hx => by
  rw [ho]
  simp only [Op.operands, List.mem_toArray, hps, jJ, jA, Function.comp]
  obtain ⟨i, hi⟩ := List.mem_iff_getElem?.1 hx
  exact ⟨(x, i), by rw [List.mem_zipIdx_iff_getElem?]; simpa using hi, rfl⟩
 have hr := hO.rep (p := p) (w := w) (a := a) fun x hx => h x (hmem x hx)
 have hsz : zO s (l.map f) := zbF hall
 have hpl' : ∀ d ∈ l.map f, d.plain = true := fun d hd => by
  obtain ⟨a, _, rfl⟩ := jA.1 hd
  exact hpl a
 have hl := hr.len
 have hlx : l.length = n := by rw [hn, ← jb (f := a.eval), hl, jb]
 obtain ⟨i, hii, hz', hsize, hby⟩ := info_parts hz
 have hpos : ¬ n * i.size = 0 := by
  rw [hsize]
  have := Nat.mul_pos hn0 hs0
  omega
 have hf : Instr.fill (fun j => some (j * i.size, i.size)) ((Array.range (n * i.size)).map (z.cells[· % z.cells.size]!)) ((parts.map fun (j, x) => (j, a.eval x)).toList) = some ((xs.map a.eval).flatMap fun v => v.cells.toList).toArray := by
  have e1 : (parts.map fun (j, x) => (j, a.eval x)).toList = ((xs.map a.eval).zipIdx 0).map fun x => (x.2, x.1) := by
   rw [Array.toList_map, hps, List.zipIdx_map, jJ, jJ]
   rfl
  rw [e1, hsize]
  have := qrp s (xs.map a.eval) 0 [] ((Array.range (n * s)).map (z.cells[· % z.cells.size]!)).toList (hr.szs hsz) (by simp) (by simp [hn])
  have e3 : ((Array.range (n * s)).map (z.cells[· % z.cells.size]!)).toList.toArray = (Array.range (n * s)).map (z.cells[· % z.cells.size]!) := by rw [Array.toArray_toList]
  rw [jo, jo, e3] at this
  exact this
 have hrun : (execOp a.eval o).run P w = .ok (.value (.slice (some ⟨w.heap.size, 0, none⟩) n n)) (w.alloc (.cells ((xs.map a.eval).flatMap fun v => v.cells.toList).toArray e)) := by
  unfold execOp
  rw [ho]
  simp [run_buildSlice w t e n _ _ i z hu hii hz' (by rw [hsize]; omega) hpos hf]
 have hrs := hr.reps
 have hlen : ((xs.map a.eval).flatMap fun v => v.cells.toList).length = n * s := by
  have := hrs.len
  rw [this, hsz.szs, jb, hlx]
 unfold Oper.wp
 rw [hrun]
 obtain ⟨p', q1, q2, q3⟩ := qrv (K := K) (p := p) (σ := σ) (w := w) (cur := ((xs.map a.eval).flatMap fun v => v.cells.toList).toArray) (e := e) (s := s) (n := n) (cap := n) (l := l.map f) (xs := (xs.map a.eval).flatMap fun v => v.cells.toList) hi (by simpa using hlen) (by rw [← hlen]; exact List.take_length) hrs (hr.ones hpl') (by simpa using hlx) (jk _) (by
  have : n * 1 ≤ n * s := vv n hs0
  unfold maxLen; omega)
 exact ⟨_, _, _, p', rfl, ⟨_, rfl, by rw [hlx]⟩, q1, q2, q3⟩
end
section
variable {P : Program} {o : Oper} {ρ : Operand → Option D}
theorem qib {f : FuncId} {args : Array Operand} {ats : Array TypeId} {σ σ1 : St} (τ : St) {ds : List D} {d : D} (ho : o.op = .call { callee := .value (.func f), args := args, argTypes := ats }) (hf : callee P f) (hO : zaf ρ args.toList ds) (hσ : σ.Perm (σ1 ++ τ)) (hS : Spec P f ds σ1 fun d' σ' => d' = d ∧ σ' = σ1) : zB P o ρ σ fun d' σ' => d' = d ∧ σ' = σ := fun K p a w hi h => by
 have h0 := qiq (P := P) (o := o) (ρ := ρ) τ ho hf hO hσ hS K p a w hi h
 refine Oper.wp_mono (fun a' w' hh => ?_) h0
 obtain ⟨v, d', σ', p', h1, ⟨σ1', ⟨rfl, rfl⟩, rfl⟩, h3, h4, h5⟩ := hh
 exact ⟨v, d', σ, p', h1, ⟨rfl, rfl⟩, h3, h4.perm hσ.symm, h5⟩
def zbv (a b : Int) : Option Int := if b = 0 then none else some (wr (Int.tdiv a b))
theorem qup {t t' : TypeId} {x y : Operand} {m n r : Int} (ho : o.op = .binOp .quo t x y t') (hx : ρ x = some (.int .i64 m)) (hy : ρ y = some (.int .i64 n)) (hr : zbv m n = some r) : zD P o ρ (.int .i64 r) := by
 unfold zbv at hr
 split at hr
 · cases hr
 · rename_i hn
   rw [← Option.some.inj hr]
   exact qBW ho hx hy hn
end
inductive Pl where
 | nil
 | cons (i : Nat) (D : List (Nat × Cls)) (next sib : Pl)
def Pl.heads : Pl → List Nat
 | .nil => []
 | .cons i _ _ sb => i :: sb.heads
def Pl.alts : Pl → List (Nat × List (Nat × Cls) × Pl)
 | .nil => []
 | .cons i D nx sb => (i, D, nx) :: sb.alts
def Pl.first : Pl → List (Nat × Cls)
 | .nil => []
 | .cons i D nx _ => (i, .w) :: D ++ nx.first
def zaM (P : Program) (ops : Array Oper) (Q : Env → St → Prop) : Pl → Bool → Env → St → Prop
 | .nil, true => Q
 | .nil, false => fun _ _ => True
 | .cons i D nx sb, _ => fun e s => Run P ops NX (zaM P ops Q nx true) ((i, .w) :: D) e s ∧ zaM P ops Q sb false e s
section
variable {P : Program} {ops : Array Oper} {Q : Env → St → Prop}
theorem qvY {e : Env} {s : St} (h : Q e s) : zaM P ops Q .nil true e s := h
theorem p_no {e : Env} {s : St} : zaM P ops Q .nil false e s := trivial
theorem qwQ {i : Nat} {D : List (Nat × Cls)} {nx sb : Pl} {f : Bool} {e : Env} {s : St} (h : Run P ops NX (zaM P ops Q nx true) ((i, .w) :: D) e s) (h2 : zaM P ops Q sb false e s) : zaM P ops Q (.cons i D nx sb) f e s := ⟨h, h2⟩
theorem qu0 {e : Env} {s : St} : ∀ {p : Pl} {f : Bool}, zaM P ops Q p f e s → ∀ x ∈ p.alts, Run P ops NX (zaM P ops Q x.2.2 true) ((x.1, .w) :: x.2.1) e s
 | .nil, _, _, x, hx => by cases hx
 | .cons i D nx sb, _, h, x, hx => by
  rcases jh.1 hx with rfl | hx
  · exact h.1
  · exact qu0 h.2 x hx
def yd (ops : Array Oper) (M : Array Nat) : List (Nat × Cls) → Bool
 | [] => true
 | x :: l => (x.2.isW || l.all fun y => z4 ops M x y) && yd ops M l
def zbe (ops : Array Oper) (M : Array Nat) (ord : List (Nat × Cls)) (H : List Nat) : Bool := (List.range ops.size).all fun k => (ord.any fun x => x.1 == k) || ((H.any fun x => x == k) || ((List.range ops.size).any fun j => !(ord.any fun x => x.1 == j) && (M.getD k 0).testBit j))
def okP (ops : Array Oper) (M : Array Nat) : Pl → List (Nat × Cls) → List Nat → Bool → Bool
 | .nil, ord, _, f => !f || (y8 ops.size ord && yd ops M ord)
 | .cons i D nx sb, ord, H, _ => zbe ops M ord H && (D.all fun x => !x.2.isW) && okP ops M nx (ord ++ (i, .w) :: D) nx.heads true && okP ops M sb ord H false
def zbk (ops : Array Oper) (pre : List (Nat × Cls)) (p : Pl) : Bool := zaV ops (ranks ops.size ((pre ++ p.first).map (·.1))) (ym ops ((pre ++ p.first).map (·.1))) && zbK ops (ranks ops.size ((pre ++ p.first).map (·.1))) && (pre.all fun x => !x.2.isW) && okP ops (ym ops ((pre ++ p.first).map (·.1))) p pre p.heads true
theorem qq1 {M : Array Nat} : ∀ {p : Pl} {ord : List (Nat × Cls)} {H : List Nat}, okP ops M p ord H true = true → ∃ ext, y8 ops.size (ord ++ ext) = true ∧ yd ops M (ord ++ ext) = true ∧ ((∃ i D nx sb, p = .cons i D nx sb ∧ ∃ e', ext = (i, .w) :: e') ∨ (p = .nil ∧ ext = []))
 | .nil, ord, H, h => by
  simp only [okP, jG, vq, jj] at h
  exact ⟨[], by rw [jx]; exact h.1, by rw [jx]; exact h.2, .inr ⟨rfl, rfl⟩⟩
 | .cons i D nx sb, ord, H, h => by
  simp only [okP, jj] at h
  obtain ⟨ext, h1, h2, _⟩ := qq1 h.1.2
  rw [ji] at h1 h2
  exact ⟨_, h1, h2, .inl ⟨i, D, nx, sb, rfl, _, rfl⟩⟩
theorem qty {M : Array Nat} : ∀ {p : Pl} {ord : List (Nat × Cls)} {H : List Nat} {f : Bool}, okP ops M p ord H f = true → ∀ x ∈ p.alts, zbe ops M ord H = true ∧ (∀ y ∈ x.2.1, y.2.isW = false) ∧ okP ops M x.2.2 (ord ++ (x.1, .w) :: x.2.1) x.2.2.heads true = true
 | .nil, _, _, _, _, x, hx => by cases hx
 | .cons i D nx sb, ord, H, f, h, x, hx => by
  simp only [okP, jj] at h
  rcases jh.1 hx with rfl | hx
  · exact ⟨h.1.1.1, fun y hy => by simpa using jv.1 h.1.1.2 y hy, h.1.2⟩
  · exact qty h.2 x hx
theorem qsm : ∀ {p : Pl} {k : Nat}, k ∈ p.heads → ∃ x ∈ p.alts, x.1 = k
 | .nil, _, h => by cases h
 | .cons i D nx sb, k, h => by
  rcases jh.1 h with rfl | h
  · exact ⟨_, jd .., rfl⟩
  · obtain ⟨x, h1, h2⟩ := qsm h
    exact ⟨x, je _ h1, h2⟩
theorem qij {M : Array Nat} : ∀ {l m : List (Nat × Cls)} {x y : Nat × Cls}, yd ops M (l ++ x :: m) = true → x.2.isW = false → y ∈ m → z4 ops M x y = true
 | [], m, x, y, h, hx, hy => by
  simp only [jo, yd, hx, vq, jj] at h
  exact jv.1 h.1 y hy
 | z :: l, m, x, y, h, hx, hy => by
  simp only [jz, yd, jj] at h
  exact qij h.2 hx hy
theorem zaN {σ : St} {l : List (Nat × Cls)} {E : Env} (hq : ∀ x ∈ l, x.2.isW = false) (h : Run P ops NX Q l E σ) : ∃ new : List PE, l = new.map (fun e => (e.i, e.c)) ∧ Q (ya E new) σ ∧ (∀ d1 e d2, new = d1 ++ e :: d2 → e.E = ya E d1 ∧ ops[e.i]? = some e.o ∧ zar P ops σ e ∧ e.c.isW = false) := by
 obtain ⟨new, l', h1, h2, h3, h4⟩ := zaQ (P := P) (Q := Q) E σ l E h
 rcases h4 with rfl | ⟨i, c, l'', rfl, hc⟩
 · exact ⟨new, by rw [h1, jx], h2, h3⟩
 · have := hq (i, c) (by rw [h1]; simp)
   rw [hc] at this
   cases this
structure MidP (P : Program) (ops : Array Oper) (Q : Env → St → Prop) (K : Ctx) (n : Nat) (m : Md) (M : Array Nat) (env0 : Env) (done : List PE) (p : Pl) (listed : Array Bool) (σ : St) (a : Act) (w : World) : Prop where
 ok : okP ops M p (done.map fun e => (e.i, e.c)) p.heads true = true
 chain : ∀ d1 e d2, done = d1 ++ e :: d2 → e.E = ya env0 d1 ∧ ops[e.i]? = some e.o ∧ (Tof listed e.i = false → zar P ops σ e ∧ e.c.isW = false)
 rest : zaM P ops Q p true (ya env0 done) σ
 new : ∀ k, Tof listed k = true → ∃ e ∈ done, e.i = k
 down : Down ops listed
 size : listed.size = ops.size
 good : Good K n m (zJ (Tof listed) env0 done) σ a w
end
section
variable {P : Program} {ops : Array Oper} {Q : Env → St → Prop}
theorem qzn {n : Nat} {md : Md} {K : Ctx} {env0 : Env} {M r : Array Nat} (hok : yq ops n = true) (hM : zaV ops r M = true) (hL : zbK ops r = true) :
 ∀ (fuel : Nat) (pl : Pl) (done : List PE) (listed : Array Bool) (σ : St) (a : Act) (w : World), MidP P ops Q K n md M env0 done pl listed σ a w → yo ops.size listed = fuel →
  wpAnyIn (fw md.rd) 0 P .any ops (za1 P K n md NX Q) fuel listed a w := by
 intro fuel
 induction fuel with
 | zero =>
  intro pl done listed σ a w m h0
  have hall : ∀ i, i < ops.size → Tof listed i = true := fun i hi => by
   cases hT : Tof listed i with
   | true => rfl
   | false =>
    have : (i, Cls.d) ∈ ((List.range ops.size).map fun i => (i, Cls.d)).filter fun x => !Tof listed x.1 := vr.2 ⟨jA.2 ⟨i, by simpa using hi, rfl⟩, by simp [hT]⟩
    have := vQ this
    unfold yo left at h0
    omega
  refine ⟨?_, .inl ⟨rfl, ?_⟩⟩
  · refine v7.2 fun i hi => ?_
    obtain ⟨hun, o, ho, _⟩ := mem_ready.1 hi
    have hi' := (jE.1 ho).1
    have := hall i hi'
    unfold Tof at this
    have hs : i < listed.size := by rw [m.size]; exact hi'
    simp [hs] at this hun
    rw [this] at hun
    cases hun
  · obtain ⟨ext, hI, _, hext⟩ := qq1 m.ok
    simp only [y8, jj, decide_eq_true_eq] at hI
    obtain ⟨⟨_, hI2⟩, hnd⟩ := hI
    have hpl : pl = .nil := by
     rcases hext with ⟨i, D, nx, sb, _, e', rfl⟩ | ⟨h, _⟩
     · exfalso
       have hi : i < ops.size := by simpa using jv.1 hI2 (i, .w) (by simp)
       obtain ⟨e, he, hei⟩ := m.new i (hall i hi)
       rw [jM, jJ] at hnd
       exact (jI.1 hnd).2.2 e.i (jF he) i (by simp) hei
     · exact h
    obtain ⟨p, g1, g2, g3, g4⟩ := m.good
    have hr := m.rest
    rw [hpl] at hr
    have he : zJ (Tof listed) env0 done = ya env0 done := qgA fun e he => by
     obtain ⟨d1, d2, hd⟩ := jP he
     exact hall e.i (jE.1 (m.chain d1 e d2 hd).2.1).1
    exact ⟨_, σ, p, hr, g1, he ▸ g2, g3, g4⟩
 | succ fuel ih =>
  intro pl done listed σ a w m h0
  obtain ⟨ext, hI, hP, hext⟩ := qq1 m.ok
  simp only [y8, jj, decide_eq_true_eq] at hI
  obtain ⟨⟨hI1, hI2⟩, hnd⟩ := hI
  obtain ⟨p, g1, g2, g3, g4⟩ := m.good
  have hmask := fun k o ho hall j hj => qn0 (ops := ops) hM m.down _ k o rfl ho hall j hj
  refine ⟨fun hnone => ?_, fun i hi => ?_⟩
  · exfalso
    -- one that has not come up, the first of them
    have hex : ∃ i, i < ops.size ∧ Tof listed i = false := by
     have : 0 < yo ops.size listed := by omega
     unfold yo left at this
     obtain ⟨x, hx⟩ := List.exists_mem_of_length_pos this
     obtain ⟨hx1, hx2⟩ := vr.1 hx
     obtain ⟨y, hy, rfl⟩ := jA.1 hx1
     exact ⟨y, by simpa using hy, by simpa using hx2⟩
    obtain ⟨i, hi1, hi2⟩ := hex
    have : ∀ n k, r.getD k 0 = n → k < ops.size → Tof listed k = false → False := by
     intro n
     induction n using Nat.strongRecOn with
     | _ n ihk =>
      intro k hkn hk1 hk2
      have hr : k ∈ Region.ready .any ops listed := by
       refine mem_ready.2 ⟨?_, ops[k], j9 hk1, fun e he hb => ?_⟩
       · have hs : k < listed.size := by rw [m.size]; exact hk1
         unfold Tof at hk2
         simp [hs] at hk2 ⊢
         exact hk2
       · cases hT : Tof listed e.on with
         | true => exact hT
         | false =>
          have hl := jv.1 hL k (by simpa using hk1)
          simp only [j9 hk1] at hl
          have := (Array.all_eq_true_iff_forall_mem.1 hl) e he
          simp only [hb, jG, vq, decide_eq_true_eq] at this
          exact (ihk _ (by rw [← hkn]; exact this.1) e.on rfl this.2 hT).elim
      rw [hnone] at hr
      cases hr
    exact this _ i rfl hi1 hi2
  · obtain ⟨hun, o, ho, hdeps⟩ := mem_ready.1 hi
    have hi' := (jE.1 ho).1
    have hs : i < listed.size := by rw [m.size]; exact hi'
    have hT : Tof listed i = false := by
     unfold Tof
     simp [hs] at hun ⊢
     exact hun
    have hdown : Down ops (listed.setIfInBounds i true) := fun k o' ho' hk e he hb => by
     rw [qd1 hs] at hk ⊢
     split
     · rfl
     · by_cases hki : k = i
       · subst hki
         rw [ho] at ho'
         injection ho' with ho'
         subst ho'
         exact hdeps e he hb
       · rw [if_neg hki] at hk
         exact m.down k o' ho' hk e he hb
    have hleft := qtR (ord := (List.range ops.size).map fun i => (i, Cls.d)) (c := Cls.d) (by rw [jJ]; have : (Prod.fst ∘ fun i : Nat => (i, Cls.d)) = id := rfl; rw [this, List.map_id]; exact List.nodup_range) (jA.2 ⟨i, by simpa using hi', rfl⟩) hs hT
    -- who must have come up, who cannot have
    have before : ∀ x y : Nat × Cls, x.1 < ops.size → z4 ops M x y = true → y.1 = i → Tof listed x.1 = false → x.2.isW = false ∧ ¬(x.2 = .r ∧ y.2.isW = true) ∧ yf ops x.1 y.1 = true := fun x y hx hp hy hf => qkz hp (by
     cases hb : (M.getD y.1 0).testBit x.1 with
     | false => rfl
     | true =>
      rw [hy] at hb
      rw [hmask i o ho hdeps x.1 hx hb] at hf
      cases hf)
    have behind : ∀ x y : Nat × Cls, y.1 < ops.size → z4 ops M x y = true → x.1 = i → Tof listed y.1 = true → x.2.isW = false ∧ ¬(x.2 = .r ∧ y.2.isW = true) ∧ yf ops x.1 y.1 = true := fun x y hy hp hx ht => qkz hp (by
     cases hb : (M.getD y.1 0).testBit x.1 with
     | false => rfl
     | true =>
      have h1 := hmask y.1 _ (j9 hy) (m.down y.1 _ (j9 hy) ht) x.1 (by rw [hx]; exact hi') hb
      rw [hx, hT] at h1
      cases h1)
    have apartL : ∀ {j k : Nat} {x y : Oper}, yf ops j k = true → ops[j]? = some x → ops[k]? = some y → x.apart ops y = true := fun {j k x y} h hx hy => by
     unfold yf at h
     rw [hx, hy] at h
     exact h
    by_cases hin : ∃ e ∈ done, e.i = i
    · -- it is pending
      obtain ⟨e, he, hec⟩ := hin
      obtain ⟨d1, d2, hsplit⟩ := jP he
      obtain rfl : e.i = i := hec
      obtain ⟨hE, heo, hpend⟩ := m.chain d1 e d2 hsplit
      obtain ⟨hp, hcw⟩ := hpend hT
      have heq : e.o = o := by rw [heo] at ho; injection ho
      have hunl : ∀ x ∈ done, Tof listed x.i = false → x.c.isW = false := fun x hx hf => by
       obtain ⟨u1, u2, hu⟩ := jP hx
       exact ((m.chain u1 x u2 hu).2.2 hf).2
      have hpair1 : ∀ x ∈ d1, Tof listed x.i = false → z4 ops M (x.i, x.c) (e.i, e.c) = true := fun x hx hf => by
       obtain ⟨u1, u2, hu⟩ := jP hx
       have : yd ops M ((u1.map fun e => (e.i, e.c)) ++ (x.i, x.c) :: ((u2.map fun e => (e.i, e.c)) ++ (e.i, e.c) :: ((d2.map fun e => (e.i, e.c)) ++ ext))) = true := by
        rw [← hP, hsplit, hu]; simp
       exact qij this (hunl x (by rw [hsplit]; exact js _ hx) hf) (by simp)
      have hpair2 : ∀ x ∈ d2, z4 ops M (e.i, e.c) (x.i, x.c) = true := fun x hx => by
       have : yd ops M ((d1.map fun e => (e.i, e.c)) ++ (e.i, e.c) :: ((d2.map fun e => (e.i, e.c)) ++ ext)) = true := by
        rw [← hP, hsplit]; simp
       exact qij this hcw (js _ (jF hx))
      have hmemlt : ∀ x ∈ done, x.i < ops.size ∧ ops[x.i]? = some x.o := fun x hx => by
       obtain ⟨u1, u2, hu⟩ := jP hx
       have := (m.chain u1 x u2 hu).2.1
       exact ⟨(jE.1 this).1, this⟩
      have hin1 : ∀ x ∈ d1, x ∈ done := fun x hx => by rw [hsplit]; exact js _ hx
      have hin2 : ∀ x ∈ d2, x ∈ done := fun x hx => by rw [hsplit]; exact jy _ (je _ hx)
      have hlook : ∀ t ∈ o.looksAt ops, lk (zJ (Tof listed) env0 done) t = lk e.E t := fun t ht => by
       rw [hsplit, qjB]
       have hcons : zJ (Tof listed) (zJ (Tof listed) env0 d1) (e :: d2) = zJ (Tof listed) (zJ (Tof listed) env0 d1) d2 := by simp [zJ, hT]
       rw [hcons, qiX, hE]
       · refine qmo (fun x hx hd => ?_) rfl
         cases hf : Tof listed x.i with
         | true => rfl
         | false =>
          have := (before (x.i, x.c) (e.i, e.c) (hmemlt x (hin1 x hx)).1 (hpair1 x hx hf) rfl hf).2.2
          have h5 := apartL this (hmemlt x (hin1 x hx)).2 ho
          exact absurd ht ((Oper.apart_spec h5).1 t hd)
       · intro x hx hf hd
         have := (behind (e.i, e.c) (x.i, x.c) (hmemlt x (hin2 x hx)).1 (hpair2 x hx) rfl hf).2.2
         have h5 := apartL this ho (hmemlt x (hin2 x hx)).2
         exact (Oper.apart_spec h5).2.2 t hd ht
      have hrep : ∀ t ∈ o.looksAt ops, ∀ d, lk e.E t = some d → Rep p w d (a.tmps.getD t Go.undef) := fun t ht d hd => g2 t d (by rw [hlook t ht]; exact hd)
      have hput : ∀ t, lk (zJ (Tof (listed.setIfInBounds e.i true)) env0 done) t = lk ((zJ (Tof listed) env0 done).put o.dst e.V) t := fun t => by
       have hne1 : ∀ x ∈ d1, x.i ≠ e.i := fun x hx hxe => by
        rw [hsplit] at hnd
        simp only [jM, jl, jJ] at hnd
        have := jI.1 (jI.1 hnd).1
        exact this.2.2 _ (jF hx) _ (jd ..) hxe
       have hne2 : ∀ x ∈ d2, x.i ≠ e.i := fun x hx hxe => by
        rw [hsplit] at hnd
        simp only [jM, jl, jJ] at hnd
        have := (jI.1 (jI.1 hnd).1).2.1
        simp only [jO] at this
        exact this.1 (jA.2 ⟨x, hx, hxe⟩)
       have e1 : zJ (Tof (listed.setIfInBounds e.i true)) env0 done = zJ (Tof listed) ((zJ (Tof listed) env0 d1).put o.dst e.V) d2 := by
        rw [hsplit, qjB, qgA (T := Tof (listed.setIfInBounds e.i true)) (T' := Tof listed) (l := d1) fun x hx => by rw [qd1 hs, if_neg (hne1 x hx)]]
        have : zJ (Tof (listed.setIfInBounds e.i true)) (zJ (Tof listed) env0 d1) (e :: d2) = zJ (Tof (listed.setIfInBounds e.i true)) ((zJ (Tof listed) env0 d1).put o.dst e.V) d2 := by
         simp [zJ, qd1 hs, heq]
        rw [this]
        exact qgA fun x hx => by rw [qd1 hs, if_neg (hne2 x hx)]
       have e2 : zJ (Tof listed) env0 done = zJ (Tof listed) (zJ (Tof listed) env0 d1) d2 := by
        rw [hsplit, qjB]; simp [zJ, hT]
       rw [e1, e2, qgE]
       by_cases hd : o.dst = some t
       · rw [if_pos hd, qiX, qgE, if_pos hd]
         intro x hx hf hxd
         have := (behind (e.i, e.c) (x.i, x.c) (hmemlt x (hin2 x hx)).1 (hpair2 x hx) rfl hf).2.2
         have h5 := apartL this ho (hmemlt x (hin2 x hx)).2
         exact (Oper.apart_spec h5).2.1 t hd hxd
       · rw [if_neg hd]
         have gen : ∀ (m : List PE) (A B : Env), lk A t = lk B t → lk (zJ (Tof listed) A m) t = lk (zJ (Tof listed) B m) t := by
          intro m
          induction m with
          | nil => exact fun A B h => h
          | cons x m ihm =>
           intro A B h
           simp only [zJ, vj]
           refine ihm _ _ ?_
           split
           · simp only [qgE]; split <;> simp [h]
           · exact h
         exact gen d2 _ _ (by rw [qgE, if_neg hd])
      have next : ∀ (a' : Act) (w' : World) (p' : Addr → Prop) (v : Value), a' = a.put o.dst v → Rep p' w' e.V v → Inv K p' σ w' → zU p w p' w' → MidP P ops Q K n md M env0 done pl (listed.setIfInBounds e.i true) σ a' w' := fun a' w' p' v ha' hv hi2 hg => by
       refine ⟨m.ok, fun u1 x u2 hu => ?_, m.rest, fun k hk => ?_, hdown, by simpa using m.size, ⟨p', hi2, fun t d ht => ?_, ?_, ?_⟩⟩
       · obtain ⟨q1, q2, q3⟩ := m.chain u1 x u2 hu
         refine ⟨q1, q2, fun hf => q3 ?_⟩
         rw [qd1 hs] at hf
         split at hf
         · cases hf
         · exact hf
       · rw [qd1 hs] at hk
         split at hk
         · rename_i hke
           exact ⟨e, he, hke.symm⟩
         · exact m.new k hk
       · rw [hput t] at ht
         have hr' := (g2.grow hg).put (dst := o.dst) hv fun t ht => vi (qkl hok ho t ht) g3
         rw [ha']
         exact hr' t d ht
       · rw [ha', qlY]; exact g3
       · rw [ha', qgq]; exact g4
      unfold wpOpIn
      simp only [ho]
      have hlf : yo ops.size (listed.setIfInBounds e.i true) = fuel := by unfold yo at h0 ⊢; omega
      rcases hp with ⟨hw, hV⟩ | ⟨hw, hp⟩
      · rw [heq] at hw
        rw [qfn hrep hw]
        simp only [jQ, if_false]
        exact ⟨fun f _ => qsy _ f, ih _ _ _ _ _ _ (next _ w p Go.undef rfl (by rw [hV]; simp only [Rep]) g1 (zU.refl p w)) hlf⟩
      · rw [heq] at hw
        rw [qfn hrep hw]
        simp only [if_true]
        have hst : zB P o (ev e.E) σ fun d' σ' => d' = e.V ∧ σ' = σ := by
         rw [← heq]
         rcases hp with ⟨_, hp⟩ | ⟨_, hp⟩
         · exact hp σ
         · exact hp
        refine qkF (fun a' w' hh => ?_) (fun _ _ _ hh => hh.elim) (hst.y md.rd K p a w g1 (ql9 hok ho hrep))
        obtain ⟨v, d, σ', p', ha', ⟨rfl, rfl⟩, hv, hi2, hg⟩ := hh
        exact ih _ _ _ _ _ _ (next a' w' p' v ha' hv hi2 hg) hlf
    · -- it is the next one of our plan
      obtain ⟨x, hx, hxi⟩ : ∃ x ∈ pl.alts, x.1 = i := by
       have hno : ∀ j, j < ops.size → (∀ e ∈ done, e.i ≠ j) → (done.map fun e => (e.i, e.c)).any (fun x => x.1 == j) = false := fun j _ hj => by
        rw [List.any_eq_false]
        intro y hy
        obtain ⟨e, he, rfl⟩ := jA.1 hy
        simpa using hj e he
       have hni : ∀ e ∈ done, e.i ≠ i := fun e he hei => hin ⟨e, he, hei⟩
       rcases hext with ⟨i0, D0, nx0, sb0, rfl, _⟩ | ⟨_, rfl⟩
       · have hcov := (qty m.ok (i0, D0, nx0) (jd ..)).1
         have h1 := jv.1 hcov i (by simpa using hi')
         rw [hno i hi' hni, vq, Bool.or_eq_true] at h1
         rcases h1 with h1 | h1
         · obtain ⟨k, hk, hki⟩ := va.1 h1
           obtain rfl : k = i := beq_iff_eq.1 hki
           exact qsm hk
         · exfalso
           obtain ⟨j, hj, hb⟩ := va.1 h1
           have hj : j < ops.size := by simpa using hj
           rw [jj, vP] at hb
           obtain ⟨e, he, hej⟩ := m.new j (hmask i o ho hdeps j hj hb.2)
           have := List.any_eq_false.1 hb.1 (e.i, e.c) (jF he)
           simp [hej] at this
       · exfalso
         obtain ⟨y, hy, hyi⟩ := va.1 (jv.1 hI1 i (by simpa using hi'))
         rw [jx] at hy
         obtain ⟨e, he, rfl⟩ := jA.1 hy
         exact hni e he (beq_iff_eq.1 hyi)
      obtain ⟨i0, Dq, nx⟩ := x
      simp only at hxi
      subst hxi
      obtain ⟨_, hDq, hokn⟩ := qty m.ok _ hx
      simp only at hDq hokn
      have hrun := qu0 m.rest _ hx
      simp only at hrun
      clear hP hI1 hI2 hnd hext
      obtain ⟨ext, hI, hP, _⟩ := qq1 hokn
      simp only [y8, jj, decide_eq_true_eq] at hI
      obtain ⟨⟨hI1, hI2⟩, hnd⟩ := hI
      have hunl : ∀ x ∈ done, Tof listed x.i = false → x.c.isW = false := fun x hx hf => by
       obtain ⟨u1, u2, hu⟩ := jP hx
       exact ((m.chain u1 x u2 hu).2.2 hf).2
      have hpair : ∀ x ∈ done, Tof listed x.i = false → z4 ops M (x.i, x.c) (i0, .w) = true := fun x hx hf => by
       obtain ⟨u1, u2, hu⟩ := jP hx
       have : yd ops M ((u1.map fun e => (e.i, e.c)) ++ (x.i, x.c) :: ((u2.map fun e => (e.i, e.c)) ++ (i0, .w) :: (Dq ++ ext))) = true := by
        rw [← hP, hu]; simp
       exact qij this (hunl x hx hf) (by simp)
      have hmemlt : ∀ x ∈ done, x.i < ops.size ∧ ops[x.i]? = some x.o := fun x hx => by
       obtain ⟨u1, u2, hu⟩ := jP hx
       have := (m.chain u1 x u2 hu).2.1
       exact ⟨(jE.1 this).1, this⟩
      have hne : ∀ x ∈ done, x.i ≠ i0 := fun x hx hxe => hin ⟨x, hx, hxe⟩
      have hlook : ∀ t ∈ o.looksAt ops, lk (zJ (Tof listed) env0 done) t = lk (ya env0 done) t := fun t ht =>
       qmo (fun x hx hd => by
        cases hf : Tof listed x.i with
        | true => rfl
        | false =>
         have := (before (x.i, x.c) (i0, .w) (hmemlt x hx).1 (hpair x hx hf) rfl hf).2.2
         have h5 := apartL this (hmemlt x hx).2 ho
         exact absurd ht ((Oper.apart_spec h5).1 t hd)) rfl
      have hrep : ∀ t ∈ o.looksAt ops, ∀ d, lk (ya env0 done) t = some d → Rep p w d (a.tmps.getD t Go.undef) := fun t ht d hd => g2 t d (by rw [hlook t ht]; exact hd)
      have next : ∀ (a' : Act) (w' : World) (p' : Addr → Prop) (v : Value) (V : D) (σ' : St), a' = a.put o.dst v → Rep p' w' V v → Inv K p' σ' w' → zU p w p' w' → Run P ops NX (zaM P ops Q nx true) Dq ((ya env0 done).put o.dst V) σ' →
       ∃ done', MidP P ops Q K n md M env0 done' nx (listed.setIfInBounds i0 true) σ' a' w' := fun a' w' p' v V σ' ha' hv hi2 hg hrun => by
       obtain ⟨new, h1, h2, h3⟩ := zaN hDq hrun
       have heA : ya env0 (done ++ [⟨i0, .w, o, ya env0 done, V⟩]) = (ya env0 done).put o.dst V := by simp [zJ]
       have hnd' : (done.map (fun e => e.i) ++ i0 :: (new.map (fun e => e.i) ++ ext.map (·.1))).Nodup := by
        have := hnd
        rw [h1] at this
        simpa [jJ, Function.comp_def] using this
       have hnd2 := jI.1 hnd'
       have hnd3 := jO.1 hnd2.2.1
       have hnewf : ∀ x ∈ new, Tof (listed.setIfInBounds i0 true) x.i = false := fun x hx => by
        have hxi : x.i ≠ i0 := fun e => hnd3.1 (by rw [← e]; exact js _ (jF hx))
        rw [qd1 hs, if_neg hxi]
        cases hT2 : Tof listed x.i with
        | false => rfl
        | true =>
         obtain ⟨e, he, hei⟩ := m.new x.i hT2
         exact absurd hei (hnd2.2.2 e.i (jF he) x.i (je _ (js _ (jF hx))))
       refine ⟨done ++ ⟨i0, .w, o, ya env0 done, V⟩ :: new, ⟨by have := hokn; rw [h1] at this; simpa using this, fun u1 x u2 hu => ?_, ?_, fun k hk => ?_, hdown, by simpa using m.size, ⟨p', hi2, fun t d ht => ?_, ?_, ?_⟩⟩⟩
       · -- the chain
         rcases List.append_eq_append_iff.1 hu with ⟨v1, hv1, hv2⟩ | ⟨v1, hv1, hv2⟩
         · cases v1 with
           | nil =>
            simp only [jo, List.cons.injEq] at hv2
            obtain ⟨rfl, rfl⟩ := hv2
            simp only [jx] at hv1
            subst hv1
            exact ⟨rfl, ho, fun hf => by rw [qd1 hs, if_pos rfl] at hf; cases hf⟩
           | cons y v1 =>
            simp only [jz, List.cons.injEq] at hv2
            obtain ⟨rfl, hv2⟩ := hv2
            obtain ⟨q1, q2, q3, q4⟩ := h3 v1 x u2 hv2
            refine ⟨?_, q2, fun _ => ⟨q3, q4⟩⟩
            rw [q1, hv1]
            simp [zJ]
         · cases v1 with
           | nil =>
            simp only [jo, List.cons.injEq] at hv2
            obtain ⟨rfl, rfl⟩ := hv2
            simp only [jx] at hv1
            subst hv1
            exact ⟨rfl, ho, fun hf => by rw [qd1 hs, if_pos rfl] at hf; cases hf⟩
           | cons y v1 =>
            simp only [jz, List.cons.injEq] at hv2
            obtain ⟨rfl, hv2⟩ := hv2
            have hxin : x ∈ done := by rw [hv1]; simp
            obtain ⟨q1, q2, q3⟩ := m.chain u1 x v1 hv1
            refine ⟨q1, q2, fun hf => ?_⟩
            rw [qd1 hs, if_neg (hne x hxin)] at hf
            obtain ⟨q4, q5⟩ := q3 hf
            refine ⟨?_, q5⟩
            have hnr := (before (x.i, x.c) (i0, .w) (hmemlt x hxin).1 (hpair x hxin hf) rfl hf).2.1
            rcases q4 with q4 | ⟨q4, q6⟩
            · exact .inl q4
            · refine .inr ⟨q4, ?_⟩
              rcases q6 with q6 | ⟨q6, _⟩
              · exact .inl q6
              · exact absurd ⟨q6, rfl⟩ hnr
       · have hee : ya env0 (done ++ (⟨i0, .w, o, ya env0 done, V⟩ : PE) :: new) = ya ((ya env0 done).put o.dst V) new := by
          rw [← heA]
          simp [zJ]
         rw [hee]
         exact h2
       · rw [qd1 hs] at hk
         split at hk
         · rename_i hke
           exact ⟨⟨i0, .w, o, ya env0 done, V⟩, by simp, hke.symm⟩
         · obtain ⟨e, he, hek⟩ := m.new k hk
           exact ⟨e, js _ he, hek⟩
       · have hT' : ∀ x ∈ done, Tof (listed.setIfInBounds i0 true) x.i = Tof listed x.i := fun x hx => by rw [qd1 hs, if_neg (hne x hx)]
         rw [qjB, qgA hT'] at ht
         have hcons : zJ (Tof (listed.setIfInBounds i0 true)) (zJ (Tof listed) env0 done) (⟨i0, .w, o, ya env0 done, V⟩ :: new) = zJ (Tof (listed.setIfInBounds i0 true)) ((zJ (Tof listed) env0 done).put o.dst V) new := by simp [zJ, qd1 hs]
         rw [hcons, qiX (fun x hx hf => by rw [hnewf x hx] at hf; cases hf)] at ht
         have hr' := (g2.grow hg).put (dst := o.dst) hv fun t ht => vi (qkl hok ho t ht) g3
         rw [ha']
         exact hr' t d ht
       · rw [ha', qlY]; exact g3
       · rw [ha', qgq]; exact g4
      have hlf : yo ops.size (listed.setIfInBounds i0 true) = fuel := by unfold yo at h0 ⊢; omega
      unfold wpOpIn
      simp only [ho]
      obtain ⟨o', ho', hrun⟩ := hrun
      obtain rfl : o' = o := by rw [ho] at ho'; injection ho' with h; exact h.symm
      have hrun : (yC ops (ya env0 done) o' = some false ∧ Run P ops NX (zaM P ops Q nx true) Dq ((ya env0 done).put o'.dst .undef) σ) ∨ (yC ops (ya env0 done) o' = some true ∧ ∃ R, za6 P o' (ev (ya env0 done)) σ R ∧ ∀ d σ', R d σ' → Run P ops NX (zaM P ops Q nx true) Dq ((ya env0 done).put o'.dst d) σ') := by
       rcases hrun with hrun | hrun | ⟨_, _, _, _, _, hx, _⟩
       · exact .inl hrun
       · exact .inr hrun
       · exact hx.elim
      rcases hrun with ⟨hw, hk⟩ | ⟨hw, R, hst, hk⟩
      · rw [qfn hrep hw]
        simp only [jQ, if_false]
        obtain ⟨done', hm⟩ := next _ w p Go.undef .undef σ rfl (by simp only [Rep]) g1 (zU.refl p w) hk
        exact ⟨fun f _ => qsy _ f, ih _ _ _ _ _ _ hm hlf⟩
      · rw [qfn hrep hw]
        simp only [if_true]
        refine qkF (fun a' w' hh => ?_) (fun _ _ _ hh => hh.elim) (hst md.rd K p a w g1 (ql9 hok ho hrep))
        obtain ⟨v, d, σ', p', ha', hR, hv, hi2, hg⟩ := hh
        obtain ⟨done', hm⟩ := next a' w' p' v d σ' ha' hv hi2 hg (hk d σ' hR)
        exact ih _ _ _ _ _ _ hm hlf
theorem qAn {n : Nat} {md : Md} {K : Ctx} {env : Env} {σ : St} (hok : yq ops n = true) (pre : List (Nat × Cls)) (pl : Pl) (hA : zbk ops pre pl = true) (h : Run P ops NX (zaM P ops Q pl true) pre env σ)
 {p : Addr → Prop} {a : Act} {w : World} (hi : Inv K p σ w) (hr : zW p w env a) (hn : n ≤ a.tmps.size) (hd : a.defers = md.marks) :
 wpAnyIn (fw md.rd) 0 P .any ops (za1 P K n md NX Q) ops.size (Array.replicate ops.size false) a w := by
 simp only [zbk, jj] at hA
 obtain ⟨⟨⟨hM, hL⟩, hq⟩, hP⟩ := hA
 obtain ⟨new, h1, h2, h3⟩ := zaN (fun x hx => by simpa using jv.1 hq x hx) h
 have h0 : ∀ i, Tof (Array.replicate ops.size false) i = false := fun i => by
  unfold Tof
  rw [Array.getD_eq_getD_getElem?, Array.getElem?_replicate]
  split <;> rfl
 have hfuel : yo ops.size (Array.replicate ops.size false) = ops.size := by
  unfold yo left
  rw [vR.2 fun x _ => by rw [h0]; rfl]
  simp
 refine qzn (P := P) (Q := Q) (K := K) (n := n) hok hM hL _ pl new _ σ a w ⟨by rw [← h1]; exact hP, fun d1 e d2 hh => ?_, h2, fun k hk => ?_, fun k' o _ hk => ?_, by simp, ⟨p, hi, ?_, hn, hd⟩⟩ hfuel
 · obtain ⟨q1, q2, q3, q4⟩ := h3 d1 e d2 hh
   exact ⟨q1, q2, fun _ => ⟨q3, q4⟩⟩
 · rw [h0] at hk; cases hk
 · rw [h0] at hk; cases hk
 · have : zJ (Tof (Array.replicate ops.size false)) env new = env := by
    have : ∀ (m : List PE), zJ (Tof (Array.replicate ops.size false)) env m = env := by
     intro m
     induction m with
     | nil => rfl
     | cons x m ih => simp only [zJ, vj, h0, jQ, if_false] at ih ⊢; exact ih
    exact this new
   rw [this]
   exact hr
theorem qsv {m : Md} {f : FuncId} {fn : Func} {K : Ctx} {R : D → St → Prop} {k : List Item} {env : Env} {σ : St} {id : Nat} {l : List Oper} (hm : P.follows .mixedOrders = true) (hok : yq l.toArray fn.ntmps = true) (pre : List (Nat × Cls)) (pl : Pl) (hA : zbk l.toArray pre pl = true) (J : Env → St → Prop)
 (h : Run P l.toArray NX (zaM P l.toArray J pl true) pre env σ) (hJ : ∀ e s, J e s → zk m P f fn K R k e s) : zk m P f fn K R (.code (.region id l.toArray true) :: k) env σ :=
 qnC (Q := J) (X := NX) (fun p a w hi hr hn hd => wpIn_region_any hm (qAn (md := m) (P := P) (Q := J) (K := K) (n := fn.ntmps) hok pre pl hA h hi.drew (hr.grow (qin p w)) hn hd)) (fun _ _ _ h => h.elim) hJ
end
theorem qjl : Ty Tryz.prog 207 false 1 := ⟨⟨_, Tryz.underlying207, rfl⟩, by kernel_rfl⟩
theorem qg0 : Ty Tryz.prog 208 false 1 := ⟨⟨_, Tryz.underlying208, rfl⟩, by kernel_rfl⟩
theorem qfx : ElT Tryz.prog 208 215 4 56 := .of Tryz.underlying208 (by kernel_rfl) (by decide)
theorem qkq : Ty Tryz.prog 210 true 2 := ⟨⟨_, Tryz.underlying210, rfl⟩, by kernel_rfl⟩
theorem qo : Fld Tryz.prog 210 0 0 := ⟨_, _, 1, Tryz.underlying210, rfl, rfl, by kernel_rfl, by decide⟩
theorem q0 : Fld Tryz.prog 210 1 1 := ⟨_, _, 1, Tryz.underlying210, rfl, rfl, by kernel_rfl, by decide⟩
theorem qiI : Ty Tryz.prog 211 false 1 := ⟨⟨_, Tryz.underlying211, rfl⟩, by kernel_rfl⟩
theorem qdd : ElT Tryz.prog 211 217 2 16 := .of Tryz.underlying211 (by kernel_rfl) (by decide)
theorem qk0 : Ty Tryz.prog 215 true 4 := ⟨⟨_, Tryz.underlying215, rfl⟩, by kernel_rfl⟩
theorem qjM : Fld Tryz.prog 215 0 0 := ⟨_, _, 1, Tryz.underlying215, rfl, rfl, by kernel_rfl, by decide⟩
theorem qjT : Fld Tryz.prog 215 1 1 := ⟨_, _, 1, Tryz.underlying215, rfl, rfl, by kernel_rfl, by decide⟩
theorem qjV : Fld Tryz.prog 215 2 2 := ⟨_, _, 1, Tryz.underlying215, rfl, rfl, by kernel_rfl, by decide⟩
theorem qeL : Fld Tryz.prog 215 3 3 := ⟨_, _, 1, Tryz.underlying215, rfl, rfl, by kernel_rfl, by decide⟩
theorem qkS : zV Tryz.prog 215 [.int .i64 0, .int .i64 0, .str ⟨#[]⟩, .lst []] := .mk rfl (by kernel_rfl) Tryz.underlying215 (by kernel_rfl)
theorem qhU : yn Tryz.prog 215 (.agg [.int .i64 0, .int .i64 0, .str ⟨#[]⟩, .lst []]) := .agg qkS
theorem qew : Ty Tryz.prog 217 true 2 := ⟨⟨_, Tryz.underlying217, rfl⟩, by kernel_rfl⟩
theorem qcJ : Fld Tryz.prog 217 0 0 := ⟨_, _, 1, Tryz.underlying217, rfl, rfl, by kernel_rfl, by decide⟩
theorem qde : Fld Tryz.prog 217 1 1 := ⟨_, _, 1, Tryz.underlying217, rfl, rfl, by kernel_rfl, by decide⟩
theorem qgU : zV Tryz.prog 217 [.int .i64 0, .int .i64 0] := .mk rfl (by kernel_rfl) Tryz.underlying217 (by kernel_rfl)
theorem qfl : yn Tryz.prog 217 (.agg [.int .i64 0, .int .i64 0]) := .agg qgU
theorem qk1 : callee Tryz.prog 90 := ⟨_, _, Tryz.func90, rfl, by decide⟩
theorem qli : callee Tryz.prog 122 := ⟨_, _, Tryz.func122, rfl, by decide⟩
theorem qfF : callee Tryz.prog 92 := ⟨_, _, Tryz.func92, rfl, by decide⟩
theorem qhy : callee Tryz.prog 119 := ⟨_, _, Tryz.func119, rfl, by decide⟩
theorem qg1 : callee Tryz.prog 120 := ⟨_, _, Tryz.func120, rfl, by decide⟩
theorem qa9 : callee Tryz.prog 137 := ⟨_, _, Tryz.func137, rfl, by decide⟩
theorem qfv : callee Tryz.prog 138 := ⟨_, _, Tryz.func138, rfl, by decide⟩
theorem qjX : callee Tryz.prog 139 := ⟨_, _, Tryz.func139, rfl, by decide⟩
theorem qgh : callee Tryz.prog 141 := ⟨_, _, Tryz.func141, rfl, by decide⟩
theorem qge : callee Tryz.prog 123 := ⟨_, _, Tryz.func123, rfl, by decide⟩
theorem qk4 : callee Tryz.prog 135 := ⟨_, _, Tryz.func135, rfl, by decide⟩
theorem qev : callee Tryz.prog 152 := ⟨_, _, Tryz.func152, rfl, by decide⟩
theorem qel : callee Tryz.prog 127 := ⟨_, _, Tryz.func127, rfl, by decide⟩
theorem qj1 : callee Tryz.prog 154 := ⟨_, _, Tryz.func154, rfl, by decide⟩
theorem qi5 : callee Tryz.prog 142 := ⟨_, _, Tryz.func142, rfl, by decide⟩
theorem qhr : callee Tryz.prog 149 := ⟨_, _, Tryz.func149, rfl, by decide⟩
theorem qjD : callee Tryz.prog 150 := ⟨_, _, Tryz.func150, rfl, by decide⟩
theorem qcX : callee Tryz.prog 144 := ⟨_, _, Tryz.func144, rfl, by decide⟩
theorem qgl : callee Tryz.prog 145 := ⟨_, _, Tryz.func145, rfl, by decide⟩
theorem qkk : callee Tryz.prog 146 := ⟨_, _, Tryz.func146, rfl, by decide⟩
theorem qh8 : callee Tryz.prog 143 := ⟨_, _, Tryz.func143, rfl, by decide⟩
theorem qjO : callee Tryz.prog 155 := ⟨_, _, Tryz.func155, rfl, by decide⟩
theorem qkD : callee Tryz.prog 159 := ⟨_, _, Tryz.func159, rfl, by decide⟩
theorem qj7 : callee Tryz.prog 158 := ⟨_, _, Tryz.func158, rfl, by decide⟩
theorem qdG : callee Tryz.prog 164 := ⟨_, _, Tryz.func164, rfl, by decide⟩
theorem qfR : callee Tryz.prog 165 := ⟨_, _, Tryz.func165, rfl, by decide⟩
theorem qhF : callee Tryz.prog 166 := ⟨_, _, Tryz.func166, rfl, by decide⟩
theorem qcU : callee Tryz.prog 167 := ⟨_, _, Tryz.func167, rfl, by decide⟩
theorem qfA : callee Tryz.prog 168 := ⟨_, _, Tryz.func168, rfl, by decide⟩
theorem qcW : callee Tryz.prog 169 := ⟨_, _, Tryz.func169, rfl, by decide⟩
theorem qmt : Ty Tryz.prog 31 false 1 := ⟨⟨_, Tryz.underlying31, rfl⟩, by kernel_rfl⟩
theorem qeH : ElT Tryz.prog 31 94 2 32 := .of Tryz.underlying31 (by kernel_rfl) (by decide)
theorem qcM : Ty Tryz.prog 33 true 8 := ⟨⟨_, Tryz.underlying33, rfl⟩, by kernel_rfl⟩
theorem qdD : Fld Tryz.prog 33 0 0 := ⟨_, _, 1, Tryz.underlying33, rfl, rfl, by kernel_rfl, by decide⟩
theorem qe8 : Fld Tryz.prog 33 1 1 := ⟨_, _, 1, Tryz.underlying33, rfl, rfl, by kernel_rfl, by decide⟩
theorem qim : Fld Tryz.prog 33 2 2 := ⟨_, _, 1, Tryz.underlying33, rfl, rfl, by kernel_rfl, by decide⟩
theorem qik : Fld Tryz.prog 33 3 3 := ⟨_, _, 1, Tryz.underlying33, rfl, rfl, by kernel_rfl, by decide⟩
theorem qil : Fld Tryz.prog 33 4 4 := ⟨_, _, 1, Tryz.underlying33, rfl, rfl, by kernel_rfl, by decide⟩
theorem qg2 : Fld Tryz.prog 33 5 5 := ⟨_, _, 1, Tryz.underlying33, rfl, rfl, by kernel_rfl, by decide⟩
theorem qii : Fld Tryz.prog 33 6 6 := ⟨_, _, 1, Tryz.underlying33, rfl, rfl, by kernel_rfl, by decide⟩
theorem qjF : Fld Tryz.prog 33 7 7 := ⟨_, _, 1, Tryz.underlying33, rfl, rfl, by kernel_rfl, by decide⟩
theorem qeu : zV Tryz.prog 33 [.lst [], .lst [], .lst [], .lst [], .lst [], .int .i64 0, .int .i64 0, .bool false] := .mk rfl (by kernel_rfl) Tryz.underlying33 (by kernel_rfl)
theorem qjy : yn Tryz.prog 33 (.agg [.lst [], .lst [], .lst [], .lst [], .lst [], .int .i64 0, .int .i64 0, .bool false]) := .agg qeu
theorem qqZ : Ty Tryz.prog 42 false 1 := ⟨⟨_, Tryz.underlying42, rfl⟩, by kernel_rfl⟩
theorem qf1 : ElT Tryz.prog 42 48 4 48 := .of Tryz.underlying42 (by kernel_rfl) (by decide)
theorem qs2 : Ty Tryz.prog 48 true 4 := ⟨⟨_, Tryz.underlying48, rfl⟩, by kernel_rfl⟩
theorem qrG : Fld Tryz.prog 48 0 0 := ⟨_, _, 1, Tryz.underlying48, rfl, rfl, by kernel_rfl, by decide⟩
theorem qrk : Fld Tryz.prog 48 1 1 := ⟨_, _, 1, Tryz.underlying48, rfl, rfl, by kernel_rfl, by decide⟩
theorem qq5 : Fld Tryz.prog 48 2 2 := ⟨_, _, 1, Tryz.underlying48, rfl, rfl, by kernel_rfl, by decide⟩
theorem qri : Fld Tryz.prog 48 3 3 := ⟨_, _, 1, Tryz.underlying48, rfl, rfl, by kernel_rfl, by decide⟩
theorem qmh : zV Tryz.prog 48 [.int .i64 0, .int .i64 0, .int .i64 0, .lst []] := .mk rfl (by kernel_rfl) Tryz.underlying48 (by kernel_rfl)
theorem qvk : Ty Tryz.prog 77 false 1 := ⟨⟨_, Tryz.underlying77, rfl⟩, by kernel_rfl⟩
theorem qiS : ElT Tryz.prog 77 46 1 24 := .of Tryz.underlying77 (by kernel_rfl) (by decide)
theorem qtN : Ty Tryz.prog 94 true 2 := ⟨⟨_, Tryz.underlying94, rfl⟩, by kernel_rfl⟩
theorem qrm : Fld Tryz.prog 94 0 0 := ⟨_, _, 1, Tryz.underlying94, rfl, rfl, by kernel_rfl, by decide⟩
theorem qrR : Fld Tryz.prog 94 1 1 := ⟨_, _, 1, Tryz.underlying94, rfl, rfl, by kernel_rfl, by decide⟩
theorem qoi : zV Tryz.prog 94 [.int .i64 0, .lst []] := .mk rfl (by kernel_rfl) Tryz.underlying94 (by kernel_rfl)
theorem qkm : callee Tryz.prog 5 := ⟨_, _, Tryz.func5, rfl, by decide⟩
theorem qfC : callee Tryz.prog 7 := ⟨_, _, Tryz.func7, rfl, by decide⟩
theorem qhA : callee Tryz.prog 9 := ⟨_, _, Tryz.func9, rfl, by decide⟩
theorem qlH : callee Tryz.prog 10 := ⟨_, _, Tryz.func10, rfl, by decide⟩
theorem qgM : callee Tryz.prog 11 := ⟨_, _, Tryz.func11, rfl, by decide⟩
theorem qky : callee Tryz.prog 14 := ⟨_, _, Tryz.func14, rfl, by decide⟩
theorem qjW : callee Tryz.prog 19 := ⟨_, _, Tryz.func19, rfl, by decide⟩
theorem qko : callee Tryz.prog 20 := ⟨_, _, Tryz.func20, rfl, by decide⟩
theorem qhM : callee Tryz.prog 21 := ⟨_, _, Tryz.func21, rfl, by decide⟩
theorem qjq : callee Tryz.prog 25 := ⟨_, _, Tryz.func25, rfl, by decide⟩
theorem qjf : callee Tryz.prog 26 := ⟨_, _, Tryz.func26, rfl, by decide⟩
theorem qkA : callee Tryz.prog 27 := ⟨_, _, Tryz.func27, rfl, by decide⟩
theorem qkw : callee Tryz.prog 28 := ⟨_, _, Tryz.func28, rfl, by decide⟩
theorem qgN : callee Tryz.prog 30 := ⟨_, _, Tryz.func30, rfl, by decide⟩
theorem qhz : callee Tryz.prog 46 := ⟨_, _, Tryz.func46, rfl, by decide⟩
theorem qf9 : callee Tryz.prog 47 := ⟨_, _, Tryz.func47, rfl, by decide⟩
theorem qeO : callee Tryz.prog 50 := ⟨_, _, Tryz.func50, rfl, by decide⟩
theorem qh2 : callee Tryz.prog 59 := ⟨_, _, Tryz.func59, rfl, by decide⟩
theorem qkH : callee Tryz.prog 60 := ⟨_, _, Tryz.func60, rfl, by decide⟩
theorem qkp : callee Tryz.prog 61 := ⟨_, _, Tryz.func61, rfl, by decide⟩
theorem qhm : callee Tryz.prog 62 := ⟨_, _, Tryz.func62, rfl, by decide⟩
theorem qjm : callee Tryz.prog 64 := ⟨_, _, Tryz.func64, rfl, by decide⟩
theorem qhB : callee Tryz.prog 82 := ⟨_, _, Tryz.func82, rfl, by decide⟩
theorem qfh : callee Tryz.prog 83 := ⟨_, _, Tryz.func83, rfl, by decide⟩
theorem qlB : callee Tryz.prog 91 := ⟨_, _, Tryz.func91, rfl, by decide⟩
theorem qh1 : callee Tryz.prog 93 := ⟨_, _, Tryz.func93, rfl, by decide⟩
theorem qhQ : callee Tryz.prog 94 := ⟨_, _, Tryz.func94, rfl, by decide⟩
theorem qjE : callee Tryz.prog 95 := ⟨_, _, Tryz.func95, rfl, by decide⟩
theorem qke : callee Tryz.prog 99 := ⟨_, _, Tryz.func99, rfl, by decide⟩
theorem qlr : callee Tryz.prog 100 := ⟨_, _, Tryz.func100, rfl, by decide⟩
theorem qh5 : callee Tryz.prog 113 := ⟨_, _, Tryz.func113, rfl, by decide⟩
theorem qf0 : callee Tryz.prog 114 := ⟨_, _, Tryz.func114, rfl, by decide⟩
theorem qhq : callee Tryz.prog 124 := ⟨_, _, Tryz.func124, rfl, by decide⟩
theorem qkZ : callee Tryz.prog 125 := ⟨_, _, Tryz.func125, rfl, by decide⟩
theorem qjZ : callee Tryz.prog 126 := ⟨_, _, Tryz.func126, rfl, by decide⟩
structure TyS (P : Program) (t : TypeId) (b : Bool) (n : Nat) : Prop where
 h : Ty P t b n
structure FlS (P : Program) (s : TypeId) (f off : Nat) : Prop where
 h : Fld P s f off
structure ElS (P : Program) (t e : TypeId) (s by_ : Nat) : Prop where
 h : ElT P t e s by_
theorem qtl : TyS Tryz.prog 77 false 1 := ⟨qvk⟩
theorem qpY : TyS Tryz.prog 50 false 1 := ⟨qrE⟩
theorem qpA : TyS Tryz.prog 29 false 1 := ⟨qqy⟩
theorem qpn : TyS Tryz.prog 22 false 1 := ⟨qrw⟩
theorem qo8 : TyS Tryz.prog 31 false 1 := ⟨qmt⟩
theorem qo3 : TyS Tryz.prog 27 false 1 := ⟨qgF⟩
theorem qpX : TyS Tryz.prog 28 false 1 := ⟨qiK⟩
theorem qo2 : TyS Tryz.prog 42 false 1 := ⟨qqZ⟩
theorem qpO : TyS Tryz.prog 26 false 1 := ⟨qrJ⟩
theorem qpk : TyS Tryz.prog 23 false 1 := ⟨qqx⟩
theorem qpL : TyS Tryz.prog 39 false 1 := ⟨qkN⟩
theorem qiw : TyS Tryz.prog 211 false 1 := ⟨qiI⟩
theorem qjk : TyS Tryz.prog 208 false 1 := ⟨qg0⟩
theorem qwK : TyS Tryz.prog 46 false 1 := ⟨qmz⟩
theorem qja : TyS Tryz.prog 207 false 1 := ⟨qjl⟩
theorem qkU : TyS Tryz.prog 17 false 1 := ⟨qlt⟩
theorem qoY : TyS Tryz.prog 133 false 1 := ⟨qpT⟩
theorem qmJ : TyS Tryz.prog 149 false 1 := ⟨qns⟩
theorem qtq : TyS Tryz.prog 233 false 1 := ⟨qvE⟩
theorem qm9 : TyS Tryz.prog 73 true 2 := ⟨qlg⟩
theorem qne : TyS Tryz.prog 92 true 5 := ⟨qi0⟩
theorem qqw : TyS Tryz.prog 30 false 1 := ⟨qnn⟩
theorem qnb : TyS Tryz.prog 60 true 2 := ⟨qtz⟩
theorem qrM : TyS Tryz.prog 36 false 1 := ⟨qsG⟩
theorem qno : TyS Tryz.prog 94 true 2 := ⟨qtN⟩
theorem qnj : TyS Tryz.prog 41 true 3 := ⟨qmj⟩
theorem qnd : TyS Tryz.prog 85 true 3 := ⟨qtK⟩
theorem qnc : TyS Tryz.prog 48 true 4 := ⟨qs2⟩
theorem qlC : TyS Tryz.prog 25 true 2 := ⟨qpG⟩
theorem qnh : TyS Tryz.prog 55 true 3 := ⟨qiT⟩
theorem qna : TyS Tryz.prog 52 true 6 := ⟨qtu⟩
theorem qmq : TyS Tryz.prog 33 true 8 := ⟨qcM⟩
theorem qng : TyS Tryz.prog 71 true 4 := ⟨qdC⟩
theorem qyL : TyS Tryz.prog 4 false 1 := ⟨qxJ⟩
theorem qjS : TyS Tryz.prog 210 true 2 := ⟨qkq⟩
theorem qgk : TyS Tryz.prog 217 true 2 := ⟨qew⟩
theorem qht : TyS Tryz.prog 215 true 4 := ⟨qk0⟩
theorem qAp : TyS Tryz.prog 3 false 1 := ⟨qgQ⟩
theorem qxq : TyS Tryz.prog 21 false 1 := ⟨qy5⟩
theorem qx7 : TyS Tryz.prog 2 false 1 := ⟨qzu⟩
theorem qnu : TyS Tryz.prog 97 false 1 := ⟨qor⟩
theorem qn9 : TyS Tryz.prog 100 false 1 := ⟨qpU⟩
theorem qpj : TyS Tryz.prog 173 false 1 := ⟨qrC⟩
theorem qrN : TyS Tryz.prog 102 true 2 := ⟨qsx⟩
theorem qvC : TyS Tryz.prog 9 false 1 := ⟨qwb⟩
theorem qoV : TyS Tryz.prog 151 true 1 := ⟨qo5⟩
theorem qy7 : TyS Tryz.prog 219 false 1 := ⟨qAY⟩
theorem qvr : TyS Tryz.prog 220 false 1 := ⟨qv0⟩
theorem qwL : TyS Tryz.prog 5 false 1 := ⟨qyY⟩
theorem qs0 : TyS Tryz.prog 12 false 1 := ⟨qvB⟩
theorem qpu : FlS Tryz.prog 73 0 0 := ⟨qrH⟩
theorem qpx : FlS Tryz.prog 73 1 1 := ⟨qrh⟩
theorem qpe : FlS Tryz.prog 92 0 0 := ⟨qrq⟩
theorem qpS : FlS Tryz.prog 92 1 1 := ⟨qrc⟩
theorem qpz : FlS Tryz.prog 60 0 0 := ⟨qq9⟩
theorem qpt : FlS Tryz.prog 60 1 1 := ⟨qrK⟩
theorem qpD : FlS Tryz.prog 94 0 0 := ⟨qrm⟩
theorem qpo : FlS Tryz.prog 94 1 1 := ⟨qrR⟩
theorem qpi : FlS Tryz.prog 41 0 0 := ⟨qru⟩
theorem qpW : FlS Tryz.prog 41 1 1 := ⟨qrY⟩
theorem qpP : FlS Tryz.prog 41 2 2 := ⟨qqI⟩
theorem qpw : FlS Tryz.prog 85 0 0 := ⟨qq7⟩
theorem qpN : FlS Tryz.prog 85 1 1 := ⟨qqJ⟩
theorem qoZ : FlS Tryz.prog 48 0 0 := ⟨qrG⟩
theorem qps : FlS Tryz.prog 48 1 1 := ⟨qrk⟩
theorem qo1 : FlS Tryz.prog 48 2 2 := ⟨qq5⟩
theorem qpb : FlS Tryz.prog 48 3 3 := ⟨qri⟩
theorem qmK : FlS Tryz.prog 25 0 0 := ⟨qnw⟩
theorem qm8 : FlS Tryz.prog 25 1 1 := ⟨qnx⟩
theorem qpg : FlS Tryz.prog 55 0 0 := ⟨qrX⟩
theorem qpv : FlS Tryz.prog 55 1 1 := ⟨qro⟩
theorem qpp : FlS Tryz.prog 55 2 2 := ⟨qqT⟩
theorem qpQ : FlS Tryz.prog 52 0 0 := ⟨qrd⟩
theorem qpq : FlS Tryz.prog 52 1 1 := ⟨qqH⟩
theorem qpF : FlS Tryz.prog 52 2 2 := ⟨qq4⟩
theorem qpB : FlS Tryz.prog 52 3 3 := ⟨qrI⟩
theorem qo0 : FlS Tryz.prog 52 4 4 := ⟨qqF⟩
theorem qpZ : FlS Tryz.prog 52 5 5 := ⟨qqB⟩
theorem qog : FlS Tryz.prog 33 0 0 := ⟨qdD⟩
theorem qoc : FlS Tryz.prog 33 1 1 := ⟨qe8⟩
theorem qoP : FlS Tryz.prog 33 2 2 := ⟨qim⟩
theorem qnR : FlS Tryz.prog 33 3 3 := ⟨qik⟩
theorem qol : FlS Tryz.prog 33 4 4 := ⟨qil⟩
theorem qoy : FlS Tryz.prog 33 5 5 := ⟨qg2⟩
theorem qoG : FlS Tryz.prog 33 6 6 := ⟨qii⟩
theorem qoj : FlS Tryz.prog 33 7 7 := ⟨qjF⟩
theorem qpc : FlS Tryz.prog 71 0 0 := ⟨qcg⟩
theorem qpM : FlS Tryz.prog 71 1 1 := ⟨qcp⟩
theorem qpy : FlS Tryz.prog 71 2 2 := ⟨qfp⟩
theorem qpR : FlS Tryz.prog 71 3 3 := ⟨qcf⟩
theorem qi2 : FlS Tryz.prog 210 0 0 := ⟨qo⟩
theorem qi3 : FlS Tryz.prog 210 1 1 := ⟨q0⟩
theorem qiA : FlS Tryz.prog 217 0 0 := ⟨qcJ⟩
theorem qiy : FlS Tryz.prog 217 1 1 := ⟨qde⟩
theorem qjs : FlS Tryz.prog 215 0 0 := ⟨qjM⟩
theorem qjo : FlS Tryz.prog 215 1 1 := ⟨qjT⟩
theorem qjp : FlS Tryz.prog 215 2 2 := ⟨qjV⟩
theorem qjj : FlS Tryz.prog 215 3 3 := ⟨qeL⟩
theorem qnO : FlS Tryz.prog 102 0 0 := ⟨qgc⟩
theorem qok : FlS Tryz.prog 102 1 1 := ⟨qjY⟩
theorem qmU : FlS Tryz.prog 151 0 0 := ⟨qnq⟩
theorem qtf : ElS Tryz.prog 77 46 1 24 := ⟨qiS⟩
theorem qpI : ElS Tryz.prog 50 73 2 40 := ⟨qdX⟩
theorem qpl : ElS Tryz.prog 29 92 5 64 := ⟨qfW⟩
theorem qpE : ElS Tryz.prog 22 60 2 24 := ⟨qkX⟩
theorem qpm : ElS Tryz.prog 31 94 2 32 := ⟨qeH⟩
theorem qph : ElS Tryz.prog 27 41 3 48 := ⟨qc3⟩
theorem qpr : ElS Tryz.prog 28 85 3 48 := ⟨qdJ⟩
theorem qo9 : ElS Tryz.prog 42 48 4 48 := ⟨qf1⟩
theorem qpa : ElS Tryz.prog 26 55 3 48 := ⟨qmw⟩
theorem qpH : ElS Tryz.prog 23 52 6 120 := ⟨qld⟩
theorem qo4 : ElS Tryz.prog 39 71 4 56 := ⟨qam⟩
theorem qiB : ElS Tryz.prog 211 217 2 16 := ⟨qdd⟩
theorem qjr : ElS Tryz.prog 208 215 4 56 := ⟨qfx⟩
theorem qwZ : ElS Tryz.prog 46 3 1 8 := ⟨qc7⟩
theorem qrt : ElS Tryz.prog 30 92 5 64 := ⟨qd4⟩
theorem aTy {P : Program} {t : TypeId} {b : Bool} {n : Nat} (h : TyS P t b n := by first | exact qtl | exact qpY | exact qpA | exact qpn | exact qo8 | exact qo3 | exact qpX | exact qo2 | exact qpO | exact qpk | exact qpL | exact qiw | exact qjk | exact qwK | exact qja | exact qkU | exact qoY | exact qmJ | exact qtq | exact qm9 | exact qne | exact qqw | exact qnb | exact qrM | exact qno | exact qnj | exact qnd | exact qnc | exact qlC | exact qnh | exact qna | exact qmq | exact qng | exact qyL | exact qjS | exact qgk | exact qht | exact qAp | exact qxq | exact qx7 | exact qnu | exact qn9 | exact qpj | exact qrN | exact qvC | exact qoV | exact qy7 | exact qvr | exact qwL | exact qs0) : TyS P t b n := h
theorem aFl {P : Program} {s : TypeId} {f off : Nat} (h : FlS P s f off := by first | exact qpu | exact qpx | exact qpe | exact qpS | exact qpz | exact qpt | exact qpD | exact qpo | exact qpi | exact qpW | exact qpP | exact qpw | exact qpN | exact qoZ | exact qps | exact qo1 | exact qpb | exact qmK | exact qm8 | exact qpg | exact qpv | exact qpp | exact qpQ | exact qpq | exact qpF | exact qpB | exact qo0 | exact qpZ | exact qog | exact qoc | exact qoP | exact qnR | exact qol | exact qoy | exact qoG | exact qoj | exact qpc | exact qpM | exact qpy | exact qpR | exact qi2 | exact qi3 | exact qiA | exact qiy | exact qjs | exact qjo | exact qjp | exact qjj | exact qnO | exact qok | exact qmU) : FlS P s f off := h
theorem aEl {P : Program} {t e : TypeId} {s by_ : Nat} (h : ElS P t e s by_ := by first | exact qtf | exact qpI | exact qpl | exact qpE | exact qpm | exact qph | exact qpr | exact qo9 | exact qpa | exact qpH | exact qo4 | exact qiB | exact qjr | exact qwZ | exact qrt) : ElS P t e s by_ := h
theorem aAll {α : Type} {f : α → D} {s : Nat} (h : ∀ a, sz (f a) = s := by first | exact fun _ => rfl | exact qcl | exact qhY | exact qgW | exact qft | exact qf2 | exact qhW | exact qhX | exact qix | exact qeq | exact qg3 | exact qe1 | exact qgB | exact qdT | exact qce) : ∀ a, sz (f a) = s := h
theorem aOne {d : D} {n : Nat} (h : sz d = n := by first | exact rfl | exact qcl _ | exact qhY _ | exact qgW _ | exact qft _ | exact qf2 _ | exact qhW _ | exact qhX _ | exact qix _ | exact qeq _ | exact qg3 _ | exact qe1 _ | exact qgB _ | exact qdT _ | exact qce _) : sz d = n := h
structure Bo (A B : Prop) : Prop where
 a : A
 b : B
def xo (P : Program) (o : Oper) (env : Env) : Option (D × Prop) := match o.op with
 | .move x => match ev env x with
  | some d => some (d, True)
  | none => none
 | .assign x => match ev env x with
  | some d => some (d, True)
  | none => none
 | .extract x j => match ev env x with
  | some (.tup ds) => match ds[j]? with
   | some d => some (d, True)
   | none => none
  | _ => none
 | .unOp .not _ x => match ev env x with
  | some (.bool b) => some (.bool (!b), True)
  | _ => none
 | .pick c x y => match ev env c with
  | some (.bool true) => match ev env x with
   | some d => some (d, True)
   | none => none
  | some (.bool false) => match ev env y with
   | some d => some (d, True)
   | none => none
  | _ => none
 | .binOp op _ x y _ => match ev env x with
  | some (.int k m) => match ev env y with
   | some (.int k' n) => if k = k' then match icmp op m n with
    | some b => some (.bool b, True)
    | none => none else none
   | _ => none
  | _ => none
 | .load t x => match ev env x with
  | some (.ptr d) => some (d, TyS P t d.isAgg (sz d))
  | _ => none
 | .fieldAddr s x f => match ev env x with
  | some (.ptr (.agg fs)) => match fs[f]? with
   | some d => some (.ptr d, Bo (FlS P s f (szs (fs.take f))) (d.plain = true))
   | none => none
  | _ => none
 | _ => none
theorem qzc {P : Program} {o : Oper} {env : Env} {d : D} {C : Prop} (h : xo P o env = some (d, C)) (hc : C) : zD P o (ev env) d := by
 unfold xo at h
 split at h
 · rename_i x ho
   split at h
   · rename_i e hx
     cases h
     exact qBp ho hx
   · cases h
 · rename_i x ho
   split at h
   · rename_i e hx
     cases h
     exact qyA ho hx
   · cases h
 · rename_i x j ho
   split at h
   · rename_i ds hx
     split at h
     · rename_i e he
       cases h
       exact qwS ho hx he
     · cases h
   · cases h
 · rename_i t x ho
   split at h
   · rename_i b hx
     cases h
     exact qCe ho hx
   · cases h
 · rename_i c x y ho
   split at h
   · rename_i hcc
     split at h
     · rename_i e hx
       cases h
       exact qAh ho hcc hx
     · cases h
   · rename_i hcc
     split at h
     · rename_i e hx
       cases h
       exact qAx ho hcc hx
     · cases h
   · cases h
 · rename_i op t x y t' ho
   split at h
   · rename_i k m hx
     split at h
     · rename_i k' n hy
       split at h
       · rename_i hk
         subst hk
         split at h
         · rename_i b hb
           cases h
           exact qCh ho hx hy hb
         · cases h
       · cases h
     · cases h
   · cases h
 · rename_i t x ho
   split at h
   · rename_i e hx
     cases h
     exact qwk ho hx hc.h rfl
   · cases h
 · rename_i s x f ho
   split at h
   · rename_i fs hx
     split at h
     · rename_i e he
       cases h
       exact qK ho hc.a.h hx he rfl hc.b
     · cases h
   · cases h
 · cases h
def xr (P : Program) (l : List Oper) : Nat → List (Nat × Cls) → Env → Prop → Option (List (Nat × Cls) × Env × Prop)
 | 0, r, e, C => some (r, e, C)
 | n + 1, r, e, C => match r with
  | [] => none
  | (i, c) :: r => match l[i]? with
   | none => none
   | some o => match z9 l e o with
    | none => none
    | some false => match o.dst with
     | some t => xr P l n r ((t, .undef) :: e) C
     | none => xr P l n r e C
    | some true => match c with
     | .d => match o.dst with
      | none => none
      | some t => match xo P o e with
       | some (d, C') => xr P l n r ((t, d) :: e) (Bo C C')
       | none => none
     | _ => none
theorem qmH {P : Program} {l : List Oper} {X : Env → D → St → Prop} {Q : Env → St → Prop} {σ : St} {r' : List (Nat × Cls)} {e' : Env} {C' : Prop} (hk : Run P l.toArray X Q r' e' σ) (hC : C') : ∀ (n : Nat) (r : List (Nat × Cls)) (e : Env) (C : Prop), xr P l n r e C = some (r', e', C') → C ∧ Run P l.toArray X Q r e σ
 | 0, r, e, C, h => by
  simp only [xr, Option.some.injEq, Prod.mk.injEq] at h
  obtain ⟨rfl, rfl, rfl⟩ := h
  exact ⟨hC, hk⟩
 | n + 1, [], e, C, h => by cases h
 | n + 1, (i, c) :: r, e, C, h => by
  simp only [xr] at h
  split at h
  · cases h
  · rename_i o ho
    split at h
    · cases h
    · rename_i hw
      split at h
      · rename_i t ht
        obtain ⟨h1, h2⟩ := qmH hk hC n r _ C h
        exact ⟨h1, qBv ho ht hw h2⟩
      · rename_i ht
        obtain ⟨h1, h2⟩ := qmH hk hC n r _ C h
        exact ⟨h1, qAB ho ht hw h2⟩
    · rename_i hw
      split at h
      · split at h
        · cases h
        · rename_i t ht
          split at h
          · rename_i d C1 hx
            obtain ⟨h1, h2⟩ := qmH hk hC n r _ (Bo C C1) h
            exact ⟨h1.a, r_d ho ht hw (qzc hx h1.b) h2⟩
          · cases h
      · cases h
theorem tz {P : Program} {te n : Nat} {b : Bool} {d : D} (h : TyS P te b n) (e : sz d = n) : TyS P te b (sz d) := by rw [e]; exact h
theorem aTz {P : Program} {te n : Nat} {b : Bool} (h : TyS P te b n := by first | exact tz qng (qcl _) | exact tz qm9 (qhY _) | exact tz qnj (qgW _) | exact tz qne (qft _) | exact tz qnd (qf2 _) | exact tz qnb (qhW _) | exact tz qna (qhX _) | exact tz qlC (qix _) | exact tz qno (qeq _) | exact tz qmq (qg3 _) | exact tz qnc (qe1 _) | exact tz qnh (qgB _) | exact tz qht (qdT _) | exact tz qgk (qce _)) : TyS P te b n := h
theorem qa {P : Program} {l : List Oper} {X : Env → D → St → Prop} {Q : Env → St → Prop} {σ : St} {r r' : List (Nat × Cls)} {e e' : Env} {C : Prop} (n : Nat) (h : xr P l n r e True = some (r', e', C)) (hk : Run P l.toArray X Q r' e' σ) (hC : C := by repeat' (first | exact True.intro | refine Bo.mk ?_ ?_ | exact rfl | (exact aFl) | (exact aTy) | (exact aTz))) : Run P l.toArray X Q r e σ := (qmH hk hC n r e True h).2
def ixd : Nat → Nat → List (Nat × Cls)
 | _, 0 => []
 | i, n + 1 => (i, .d) :: ixd (i + 1) n
theorem qtH : ∀ (n i : Nat), (ixd i n).map (·.1) = List.range' i n
 | 0, i => rfl
 | n + 1, i => by rw [ixd, jl, qtH n (i + 1), List.range'_succ]
theorem qg {P : Program} {f : FuncId} {fn : Func} {K : Ctx} {R : D → St → Prop} {k : List Item} {env : Env} {σ : St} {id : Nat} {l : List Oper} (n : Nat) (h : Run P l.toArray (fun _ => K.X) (Goes P f fn K R k) (ixd 0 n) env σ) (hok : yq l.toArray fn.ntmps = true := by kernel_rfl) (hn : l.length = n := by exact rfl) : Goes P f fn K R (.code (.region id l.toArray false) :: k) env σ := qyH hok (ixd 0 n) (by rw [qtH, hn, vY]) h
theorem qCg {P : Program} {f : FuncId} {fn : Func} {K : Ctx} {R : D → St → Prop} {k : List Item} {env env' : Env} {σ : St} {id : Nat} {ops : Array Oper} {C : Prop} (h : ∀ Q : Env → St → Prop, Q env' σ → C ∧ Run P ops.toList.toArray (fun _ => K.X) Q (ixd 0 ops.toList.length) env σ) (hok : yq ops fn.ntmps = true) (hk : Goes P f fn K R k env' σ) : C ∧ Goes P f fn K R (.code (.region id ops false) :: k) env σ := by
 cases ops with
 | mk l =>
  obtain ⟨h1, h2⟩ := h _ hk
  exact ⟨h1, qyH (l := l) hok (ixd 0 l.length) (by rw [qtH, vY]) h2⟩
def yr (P : Program) (nt : Nat) : Nat → List Item → Env → Prop → Option (List Item × Env × Prop)
 | 0, k, e, C => some (k, e, C)
 | n + 1, .code (.seq x y) :: k, e, C => yr P nt n (.code x :: .code y :: k) e C
 | n + 1, .code .skip :: k, e, C => yr P nt n k e C
 | n + 1, .inBlock _ :: k, e, C => yr P nt n k e C
 | n + 1, .code (.block id c) :: k, e, C => yr P nt n (.code c :: .inBlock id :: k) e C
 | n + 1, .code (.exit id) :: k, e, C => match exitTo id k with
  | some k' => yr P nt n k' e C
  | none => none
 | n + 1, .code (.cond c x y) :: k, e, C => match zax c with
  | true => match ev e c with
   | some (.bool true) => yr P nt n (.code x :: k) e C
   | some (.bool false) => yr P nt n (.code y :: k) e C
   | _ => none
  | false => none
 | n + 1, .code (.region _ ops false) :: k, e, C => match xr P ops.toList ops.toList.length (ixd 0 ops.toList.length) e C with
  | some ([], e', C') => yr P nt n k e' (Bo C' (yq ops nt = true))
  | _ => none
 | _ + 1, _, _, _ => none
theorem qyj {P : Program} {f : FuncId} {fn : Func} {K : Ctx} {R : D → St → Prop} {σ : St} {k' : List Item} {e' : Env} {C' : Prop} (hk : Goes P f fn K R k' e' σ) (hC : C') : ∀ (n : Nat) (k : List Item) (e : Env) (C : Prop), yr P fn.ntmps n k e C = some (k', e', C') → C ∧ Goes P f fn K R k e σ := by
 intro n
 induction n with
 | zero =>
  intro k e C h
  simp only [yr, Option.some.injEq, Prod.mk.injEq] at h
  obtain ⟨rfl, rfl, rfl⟩ := h
  exact ⟨hC, hk⟩
 | succ n ih =>
  intro k e C h
  unfold yr at h
  split at h
  · cases ‹_ + 1 = 0›
  · rename_i hn
    cases hn
    obtain ⟨h1, h2⟩ := ih _ _ _ h
    exact ⟨h1, qe h2⟩
  · rename_i hn
    cases hn
    obtain ⟨h1, h2⟩ := ih _ _ _ h
    exact ⟨h1, ql1 h2⟩
  · rename_i hn
    cases hn
    obtain ⟨h1, h2⟩ := ih _ _ _ h
    exact ⟨h1, qaa h2⟩
  · rename_i hn
    cases hn
    obtain ⟨h1, h2⟩ := ih _ _ _ h
    exact ⟨h1, qtm h2⟩
  · rename_i hn
    cases hn
    split at h
    · rename_i k1 he
      obtain ⟨h1, h2⟩ := ih _ _ _ h
      exact ⟨h1, qQ he h2⟩
    · cases h
  · rename_i hn
    cases hn
    split at h
    · rename_i ho
      split at h
      · rename_i hc
        obtain ⟨h1, h2⟩ := ih _ _ _ h
        exact ⟨h1, qqr hc ho (fun _ => h2) fun h => by cases h⟩
      · rename_i hc
        obtain ⟨h1, h2⟩ := ih _ _ _ h
        exact ⟨h1, qqr hc ho (fun h => by cases h) fun _ => h2⟩
      · cases h
    · cases h
  · rename_i hn
    cases hn
    split at h
    · rename_i hx
      obtain ⟨h1, h2⟩ := ih _ _ _ h
      exact qCg (fun Q hQ => qmH (r' := []) (Q := Q) (show Run P _ _ Q [] _ σ from hQ) h1.a _ _ _ _ hx) h1.b h2
    · cases h
  · cases h
theorem qf {P : Program} {f : FuncId} {fn : Func} {K : Ctx} {R : D → St → Prop} {σ : St} {k k' : List Item} {e e' : Env} {C : Prop} (n : Nat) (h : yr P fn.ntmps n k e True = some (k', e', C)) (hk : Goes P f fn K R k' e' σ) (hC : C := by repeat' (first | exact True.intro | refine Bo.mk ?_ ?_ | exact rfl | (exact aFl) | (exact aTy) | (exact aTz) | kernel_rfl)) : Goes P f fn K R k e σ := (qyj hk hC n k e True h).2
section
variable {P : Program} {X : Env → D → St → Prop} {Q : Env → St → Prop} {l : List Oper} {i : Nat} {o : Oper} {t : Nat} {d : D} {env : Env} {σ : St} {rest : List (Nat × Cls)}
theorem qz {α : Type} {f : α → D} {x : Operand} {te e : TypeId} {s by_ : Nat} {dx : D} {m : List α} (h : (l[i]?, o.dst, z9 l env o, o.op, ev env x, asL dx) = (some o, some t, some true, .call { callee := .builtin .len, args := #[x], argTypes := #[te] }, some dx, some (m.map f))) (hk : Run P l.toArray X Q rest ((t, .int .i64 (m.length : Int)) :: env) σ) (hE : ElS P te e s by_ := by exact aEl) : Run P l.toArray X Q ((i, .d) :: rest) env σ := by
 simp only [Prod.mk.injEq] at h
 obtain ⟨h1, h2, h3, h4, h5, h6⟩ := h
 exact r_d h1 h2 h3 (qCl m h4 hE.h h5 (asl h6)) hk
theorem qN {α : Type} {f : α → D} {x ix : Operand} {te e : TypeId} {s by_ : Nat} {dx : D} {m : List α} {k : IntKind} {n : Int} {q : α} (hq : zj m n = some q) (h : (l[i]?, o.dst, z9 l env o, o.op, ev env x, asL dx, ev env ix) = (some o, some t, some true, .indexAddr te x ix, some dx, some (m.map f), some (.int k n))) (hk : Run P l.toArray X Q rest ((t, .ptr (f q)) :: env) σ) (hE : ElS P te e s by_ := by exact aEl) (hall : ∀ a, sz (f a) = s := by exact aAll) (hp : (f q).plain = true := by exact rfl) : Run P l.toArray X Q ((i, .d) :: rest) env σ := by
 simp only [Prod.mk.injEq] at h
 obtain ⟨h1, h2, h3, h4, h5, h6, h7⟩ := h
 exact r_d h1 h2 h3 (qz6 m h4 hE.h h5 (asl h6) h7 hq hall hp) hk
def evs (env : Env) : List Operand → Option (List D)
 | [] => some []
 | x :: xs => match ev env x with
  | none => none
  | some d => match evs env xs with
   | none => none
   | some ds => some (d :: ds)
theorem quS : ∀ (xs : List Operand) (ds : List D), evs env xs = some ds → zaf (ev env) xs ds
 | [], ds, h => by
  simp only [evs, Option.some.injEq] at h
  subst h
  exact .nil
 | x :: xs, ds, h => by
  simp only [evs] at h
  split at h
  · cases h
  · rename_i d hd
    split at h
    · cases h
    · rename_i ds' hds
      cases h
      exact .cons hd (Wk.refl _) (quS xs ds' hds)
theorem qs {f : FuncId} {args : Array Operand} {ats : Array TypeId} {ds : List D} (h : (l[i]?, o.dst, z9 l env o, o.op, evs env args.toList) = (some o, some t, some true, .call { callee := .value (.func f), args := args, argTypes := ats }, some ds)) (hf : callee P f) (hS : zf P f ds d) (hk : Run P l.toArray X Q rest ((t, d) :: env) σ) : Run P l.toArray X Q ((i, .d) :: rest) env σ := by
 simp only [Prod.mk.injEq] at h
 obtain ⟨h1, h2, h3, h4, h5⟩ := h
 exact r_d h1 h2 h3 (qhd h4 hf (quS _ _ h5) hS) hk
def za0 (env : Env) : List Nat → Option Env
 | [] => some []
 | t :: ts => match lk env t with
  | none => none
  | some d => match za0 env ts with
   | none => none
   | some e => some ((t, d) :: e)
theorem qoW : ∀ (ts : List Nat) (e : Env), za0 env ts = some e → Sub e env
 | [], e, h => by
  simp only [za0, Option.some.injEq] at h
  subst h
  exact Sub.nil _
 | t :: ts, e, h => by
  simp only [za0] at h
  split at h
  · cases h
  · rename_i d hd
    split at h
    · cases h
    · rename_i e' he
      cases h
      exact Sub.cons' hd (qoW ts e' he)
theorem qm {m : Md} {f : FuncId} {fn : Func} {K : Ctx} {R : D → St → Prop} {k : List Item} {env' : Env} (ts : List Nat) (h : za0 env ts = some env') (hk : zk m P f fn K R k env' σ) : zk m P f fn K R k env σ := qvH env' (qoW ts env' h) hk
def resE (env : Env) : List ResultVar → Option (List D)
 | [] => some []
 | .tmp t :: rs => match lk env t with
  | none => none
  | some d => match resE env rs with
   | none => none
   | some ds => some (d :: ds)
 | _ :: _ => none
theorem qwI : ∀ (rs : List ResultVar) (ds : List D), resE env rs = some ds → zah P env σ rs ds
 | [], ds, h => by
  simp only [resE, Option.some.injEq] at h
  subst h
  exact .nil
 | .tmp t :: rs, ds, h => by
  simp only [resE] at h
  split at h
  · cases h
  · rename_i d hd
    split at h
    · cases h
    · rename_i ds' hds
      cases h
      exact .cons (zd hd (Wk.refl _)) (qwI rs ds' hds)
 | .cell _ _ :: rs, ds, h => by cases h
theorem qu {f : FuncId} {fn : Func} {K : Ctx} {R : D → St → Prop} {k : List Item} {ds : List D} (hf : P.funcs[f]? = some fn) (h : resE env fn.results.toList = some ds) (hR : R (yJ ds) σ) : Goes P f fn K R (.code .ret :: k) env σ := qbQ hf ds (qwI _ _ h) hR
theorem qY {f : FuncId} {fn : Func} {R : D → St → Prop} {c : Code} {ds : List D} (hf : P.funcs[f]? = some fn) (hb : fn.body = some c) (h : ∀ K, (K.F0 = fun b => b ∈ yP σ) → Goes P f fn K R [.code c] (zag 0 ds) σ) : Spec P f ds σ R := qyC _ hf hb rfl h
theorem qcr {te : TypeId} {x y : Operand} {n b : Nat} {τ : St} {d0 : D} (h : (l[i]?, o.dst, z9 l env o, o.op, ev env x, ev env y) = (some o, none, some true, .store te x y, some (.ref b 0 []), some d)) (hσ : σ.Perm (.cell b d0 :: τ)) (hk : Run P l.toArray X Q rest env (.cell b d :: τ)) (ht : TyS P te d.isAgg n := by exact aTy) (hn : sz d = n := by exact aOne) (hn' : sz d0 = n := by exact aOne) (hp : d.plain = true := by exact rfl) : Run P l.toArray X Q ((i, .w) :: rest) env σ := by
 simp only [Prod.mk.injEq] at h
 obtain ⟨h1, h2, h3, h4, h5, h6⟩ := h
 exact qgZ h1 h2 h3 (qrr τ h4 h5 h6 (Wk.refl _) hσ ht.h hn hn' hp) hk
def dgc : Nat → Cls
 | 0 => .d
 | 1 => .w
 | 2 => .r
 | _ => .x
def ixc : Nat → Nat → Nat → List (Nat × Cls)
 | _, 0, _ => []
 | i, n + 1, c => (i, dgc (c % 4)) :: ixc (i + 1) n (c / 4)
theorem qya : ∀ (n i c : Nat), (ixc i n c).map (·.1) = List.range' i n
 | 0, i, c => rfl
 | n + 1, i, c => by rw [ixc, jl, qya n (i + 1), List.range'_succ]
theorem zg {f : FuncId} {fn : Func} {K : Ctx} {R : D → St → Prop} {k : List Item} {id : Nat} (n c : Nat) (h : Run P l.toArray (fun _ => K.X) (Goes P f fn K R k) (ixc 0 n c) env σ) (hok : yq l.toArray fn.ntmps = true := by kernel_rfl) (hn : l.length = n := by exact rfl) : Goes P f fn K R (.code (.region id l.toArray false) :: k) env σ := qyH hok (ixc 0 n c) (by rw [qya, hn, vY]) h
theorem qei {m : Md} {f : FuncId} {fn : Func} {K : Ctx} {R : D → St → Prop} {k : List Item} {id : Nat} (n c : Nat) (h : Run P l.toArray NX (zk m P f fn K R k) (ixc 0 n c) env σ) (hm : P.follows .mixedOrders = true := by kernel_rfl) (hok : yq l.toArray fn.ntmps = true := by kernel_rfl) (hA : yN l.toArray (ixc 0 n c) = true := by kernel_rfl) (hx : (ixc 0 n c).all (fun x => decide (x.2 ≠ .x)) = true := by rfl) : zk m P f fn K R (.code (.region id l.toArray true) :: k) env σ := qBV hm hok (ixc 0 n c) hA h hx
def mv {α : Type} : List Nat → List α → List α
 | [], l => l
 | k :: ks, l => match l[k]? with
  | none => l
  | some x => mv ks (x :: l.eraseIdx k)
theorem mv1 {α : Type} : ∀ (k : Nat) (l : List α) (x : α), l[k]? = some x → l.Perm (x :: l.eraseIdx k)
 | _, [], x, h => by simp at h
 | 0, a :: l, x, h => by
  cases h
  exact .refl _
 | k + 1, a :: l, x, h => ((mv1 k l x (by simpa using h)).cons a).trans (.swap _ _ _)
theorem pS {α : Type} : ∀ (ks : List Nat) (l : List α), l.Perm (mv ks l)
 | [], l => .refl _
 | k :: ks, l => by
  unfold mv
  split
  · exact .refl _
  · rename_i x hx
    exact (mv1 k l x hx).trans (pS ks _)
theorem sbr {e : Env} (h : za0 env (e.map Prod.fst) = some e) : Sub e env := qoW _ _ h
theorem pk0 {α : Type} {l m : List α} (a : α) (h : l.Perm m) : (a :: l).Perm (a :: m) := h.cons a
theorem pk1 {α : Type} {l m : List α} (a b : α) (h : (a :: l).Perm m) : (a :: b :: l).Perm (b :: m) := (pf1 _ _ _).trans (h.cons b)
theorem pk2 {α : Type} {l m : List α} (a b c : α) (h : (a :: b :: l).Perm m) : (a :: b :: c :: l).Perm (c :: m) := (pf2 _ _ _ _).trans (h.cons c)
theorem pk3 {α : Type} {l m : List α} (a b c d : α) (h : (a :: b :: c :: l).Perm m) : (a :: b :: c :: d :: l).Perm (d :: m) := (pf3 _ _ _ _ _).trans (h.cons d)
theorem pk4 {α : Type} {l m : List α} (a b c d e : α) (h : (a :: b :: c :: d :: l).Perm m) : (a :: b :: c :: d :: e :: l).Perm (e :: m) := (pf4 _ _ _ _ _ _).trans (h.cons e)
theorem pkz {α : Type} {l m : List α} (h : l.Perm m := by repeat' (first | exact .nil | refine pk0 _ ?_ | refine pk1 _ _ ?_ | refine pk2 _ _ _ ?_ | refine pk3 _ _ _ _ ?_ | refine pk4 _ _ _ _ _ ?_)) : l.Perm m := h
theorem qcD {te : TypeId} {x : Operand} {b off n : Nat} {path : List Nat} {d0 : D} (j : Nat) (h : (l[i]?, o.dst, z9 l env o, o.op, ev env x, σ[j]?, yR d0 path, yU d0 path) = (some o, some t, some true, .load te x, some (.ref b off path), some (.cell b d0), some d, off)) (hk : Run P l.toArray X Q rest ((t, d) :: env) σ) (ht : TyS P te d.isAgg n := by exact aTy) (hn : sz d = n := by exact aOne) : Run P l.toArray X Q ((i, .r) :: rest) env σ := by
 simp only [Prod.mk.injEq] at h
 obtain ⟨h1, h2, h3, h4, h5, h6, h7, h8⟩ := h
 exact r_r h1 h2 h3 (qnT h4 h5 (List.mem_of_getElem? h6) h7 h8 ht.h hn) hk
theorem za4 {te : TypeId} {x : Operand} {b off n : Nat} {path : List Nat} {d0 : D} (j : Nat) (h : (l[i]?, o.dst, z9 l env o, o.op, ev env x, σ[j]?, yR d0 path, yU d0 path) = (some o, some t, some true, .load te x, some (.ref b off path), some (.cell b d0), some d, off)) (hk : Run P l.toArray X Q rest ((t, d) :: env) σ) (ht : TyS P te d.isAgg n := by exact aTy) (hn : sz d = n := by exact aOne) : Run P l.toArray X Q ((i, .w) :: rest) env σ := by
 simp only [Prod.mk.injEq] at h
 obtain ⟨h1, h2, h3, h4, h5, h6, h7, h8⟩ := h
 exact zbh h1 h2 h3 (qnT h4 h5 (List.mem_of_getElem? h6) h7 h8 ht.h hn) hk
theorem qaj {tt t2 : TypeId} {x y : Operand} {j : Nat} (h : (l[i]?, o.dst, z9 l env o, o.op, ev env x, ev env y) = (some o, some t, some true, .binOp .add tt x y t2, some (.int .i64 (j : Int)), some (.int .i64 1))) (hk : Run P l.toArray X Q rest ((t, .int .i64 ((j + 1 : Nat) : Int)) :: env) σ) (hj : j < 9223372036854775807 := by omega) : Run P l.toArray X Q ((i, .d) :: rest) env σ := by
 simp only [Prod.mk.injEq] at h
 obtain ⟨h1, h2, h3, h4, h5, h6⟩ := h
 exact r_d h1 h2 h3 (s_ar (r := ((j + 1 : Nat) : Int)) h4 h5 h6 (by simp [iar]) (by omega)) hk
end
end Go.Proofs.YtlfcjfiecoapoaaGreat
