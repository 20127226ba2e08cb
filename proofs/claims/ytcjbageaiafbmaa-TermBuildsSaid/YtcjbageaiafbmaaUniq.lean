/-
  The numbers of a list, each once, in the order of their first occurrence; term.once over term.each; Vars, AtomVars, GoalVars of the program.
-/
import Derived.Test.YtcjbageaiafbmaaGround
import Derived.Test.YtcjbageaiafbmaaAtom
import Derived.RangeFuncWrites
import Derived.Maps.OwnIn
import Derived.Maps.Views
import Derived.Maps.AppendAt
namespace Go.Proofs.Ytcjbageaiafbmaa
open Go.RowKit Go.Shelf
attribute [local go_sem] Oper.semAt_some

def addU (l : List Int) (x : Int) : List Int := if x ∈ l then l else l ++ [x]
/-- l, and behind it the new numbers of xs. -/
def uniq (l xs : List Int) : List Int := xs.foldl addU l
theorem uniq_nil (l : List Int) : uniq l [] = l := rfl
theorem uniq_app (l xs ys : List Int) : uniq l (xs ++ ys) = uniq (uniq l xs) ys := List.foldl_append ..
theorem uniq_snoc (l xs : List Int) (x : Int) : uniq l (xs ++ [x]) = addU (uniq l xs) x := by rw [uniq_app]; rfl
theorem mem_addU {l : List Int} {x y : Int} : y ∈ addU l x ↔ y ∈ l ∨ y = x := by
  unfold addU
  split
  · constructor
    · exact .inl
    · rintro (h | rfl) <;> assumption
  · simp
theorem mem_uniq {y : Int} : ∀ {xs l : List Int}, y ∈ uniq l xs ↔ y ∈ l ∨ y ∈ xs
  | [], l => by simp [uniq_nil]
  | x :: xs, l => by
    show y ∈ uniq (addU l x) xs ↔ _
    rw [mem_uniq, mem_addU, List.mem_cons, or_assoc]
theorem addU_len (l : List Int) (x : Int) : (addU l x).length ≤ l.length + 1 := by unfold addU; split <;> simp
theorem uniq_len : ∀ (xs l : List Int), (uniq l xs).length ≤ l.length + xs.length
  | [], l => by simp [uniq_nil]
  | x :: xs, l => by
    show (uniq (addU l x) xs).length ≤ _
    have := uniq_len xs (addU l x)
    have := addU_len l x
    simp only [List.length_cons]
    omega
mutual
theorem occ_wt : ∀ t : T, (occT t).length ≤ wt t
  | .mk k i s ar => by
    simp only [occT, wt]
    have := occL_wt ar
    split
    · simp
    · split
      · omega
      · simp
theorem occL_wt : ∀ l : List T, (occL l).length ≤ wtL l
  | [] => by simp [occL]
  | t :: l => by
    simp only [occL, wtL, List.length_append]
    have := occ_wt t
    have := occL_wt l
    omega
end

theorem wf_of {x : Int} (h : I64 x) : (Lit.int .i64 x).wf = true := by
  unfold I64 at h
  simp [Lit.wf, IntKind.min, IntKind.max, IntKind.signed, IntKind.bits]
  omega
theorem info_int : ((Try.prog).info? 3).map (fun i => (i.zero, i.size, i.bytes)) = some (some (.int .i64 0), 1, 8) := by kernel_rfl

/-- The map says of each number whether it has come. -/
def SeenM (W : World) (b : Nat) (xs : List Int) : Prop :=
  ∃ D : DataW Unit, W.ownsMap Try.prog 3 (plainElem Try.prog 4) b xs.length D ∧ Maps.IsMap D ∧ ∀ x : Int, I64 x → D.atKey (.int .i64 x) (.lit (.bool false)) = .lit (.bool (decide (x ∈ xs)))
theorem SeenM.made (w : World) : SeenM (w.alloc (.map #[] 0)) w.heap.size [] :=
  ⟨.map [], World.ownsMap_made _ _ _ _, ⟨_, rfl⟩, fun _ _ => rfl⟩
theorem SeenM.kept {W W' : World} {row : Option Nat} {b : Nat} {xs : List Int} (h : SeenM W b xs) (hg : W.grownBy W' row) (hne : some b ≠ row) : SeenM W' b xs :=
  let ⟨D, h1, h2, h3⟩ := h; ⟨D, h1.kept hg hne, h2, h3⟩
theorem SeenM.lt {W : World} {b : Nat} {xs : List Int} (h : SeenM W b xs) : b < W.heap.size := let ⟨_, h1, _⟩ := h; h1.lt
theorem SeenM.heap {W : World} {b : Nat} {xs : List Int} (h : SeenM W b xs) : ∃ es ck, W.heap[b]? = some (.map es ck) := let ⟨_, ⟨es, ck, h1, _⟩, _⟩ := h; ⟨es, ck, h1⟩
theorem zero_bool (w : World) : (zeroValue 4).run Try.prog w = .ok (.bool false) w := by kernel_rfl
theorem SeenM.look {W : World} {b : Nat} {xs : List Int} (h : SeenM W b xs) {x : Int} (hx : I64 x) : (Instr.lookup 77 (.map (some b)) (.int .i64 x) false).run Try.prog W = .ok (.bool (decide (x ∈ xs))) W := by
  obtain ⟨D, h1, h2, h3⟩ := h
  obtain ⟨v, ps, hrun, hv⟩ := h1.lookup (Maps.int_keyed Try.underlying3) Try.underlying77 (zero_bool W) (plainElem_bool Try.underlying4 false) (Maps.keyOf_int_mk Try.underlying3 (wf_of hx))
  rw [h3 x hx] at hv
  have : v = .bool (decide (x ∈ xs)) := by
    unfold plainElem at hv
    rw [Try.underlying4] at hv
    split at hv <;> simp_all
  rw [hrun, this]

theorem SeenM.put {W : World} {b : Nat} {xs : List Int} {D' : DataW Unit} {x : Int} (hx : I64 x) (hm : Maps.IsMap D') (hd : ∃ D : DataW Unit, D' = D.put (.int .i64 x) (.lit (.bool true)) ∧ Maps.IsMap D ∧ ∀ x : Int, I64 x → D.atKey (.int .i64 x) (.lit (.bool false)) = .lit (.bool (decide (x ∈ xs))))
    (hown : W.ownsMap Try.prog 3 (plainElem Try.prog 4) b (xs.length + 1) D') : SeenM W b (xs ++ [x]) := by
  obtain ⟨D, rfl, h2, h3⟩ := hd
  refine ⟨_, by simpa using hown, hm, fun y hy => ?_⟩
  by_cases hxy : y = x
  · subst hxy
    rw [Maps.atKey_put_same h2 (by simp [WideAt.IsKeyLit])]
    simp
  · rw [Maps.atKey_put_other (by simp [hxy]), h3 y hy]
    simp [hxy]

/-- What the loop of 'once' keeps, the numbers xs having come. -/
def OnceAt (base b0 b1 b2 : Nat) (xs : List Int) (W : World) : Prop :=
  (∃ v, Boxed W b0 34 v ∧ W.ownsRow base 3 1 v (uniq [] xs).length ((uniq [] xs).map (Value.int .i64))) ∧ Boxed W b2 77 (.map (some b1)) ∧ SeenM W b1 (uniq [] xs)

theorem boxed_own {B b : Nat} {t : TypeId} {v : Value} {X Y : World} {row : Option Nat} (hv : Boxed X b t v) (hg : X.grownBy Y row) (hrow : ∀ r, row = some r → B ≤ r ∧ ∃ o : Obj, X.heap[r]? = some o ∧ o.isCells = false) : Boxed Y b t v :=
  hv.kept hg (fun e' => by
    obtain ⟨_, o, ho, hc⟩ := hrow b e'.symm
    rw [show X.heap[b]? = _ from hv] at ho; cases ho; cases hc)
theorem once_own (B base b0 b1 b2 : Nat) (h1 : b1 < B) : OwnFrom B (fun (pre : List I64s) W => OnceAt base b0 b1 b2 (valS pre) W) := by
  rintro s X Y row ⟨⟨v, hv, hr⟩, hc, hm⟩ hg hrow
  refine ⟨⟨v, boxed_own hv hg hrow, hr.kept hg ?_⟩, boxed_own hc hg hrow, hm.kept hg (fun e' => ?_)⟩
  · rcases hr.2 with ⟨rfl, _⟩ | ⟨g, cap, cur, rfl, _, hgb, _⟩
    · exact .inl rfl
    · refine .inr fun e' => ?_
      obtain ⟨_, o, ho, hc⟩ := hrow g (by simpa [Value.ownBlock] using e'.symm)
      rw [hgb] at ho; cases ho; cases hc
  · have := (hrow b1 e'.symm).1
    omega
/-- A row is not a map. -/
theorem row_not_map {W : World} {base : Nat} {e : TypeId} {size : Nat} {v : Value} {k : Nat} {xs : List Value} (h : W.ownsRow base e size v k xs) {b : Nat} {es : Array _} {ck : Nat} (hb : W.heap[b]? = some (.map es ck)) : v.ownBlock = none ∨ v.ownBlock ≠ some b := by
  rcases h.2 with ⟨rfl, _⟩ | ⟨g, cap, cur, rfl, _, hgb, _⟩
  · exact .inl rfl
  · refine .inr fun e' => ?_
    obtain rfl : g = b := by simpa [Value.ownBlock] using e'
    rw [hgb] at hb; cases hb

set_option maxHeartbeats 2000000 in
theorem once_any (d : Nat) (hd : d ≤ 1000000) (ts : List T) (sv : Value) (Bt : Nat) (w : World) (hn : wtL ts ≤ d) (hc : w.cell? ⟨Bt, 0, none⟩ = some sv) (hs : SlT w ts sv) :
    Calls Try.prog 63 #[.func (.func 77) #[] #[.pointer (some ⟨Bt, 0, none⟩)]] w (Ret w (IsRow w.heap.size 3 1 (uniq [] (occL ts)).length ((uniq [] (occL ts)).map (Value.int .i64)))) := by
  have hmm := @run_makeMap Try.prog
  obtain ⟨i0, hi, hz0, hz1, hz2⟩ := info_parts info_int
  have hlenO : (occL ts).length ≤ 1000000 := by have := occL_wt ts; omega
  refine (callsIn_wide (n := 3)).1 ?_
  refine callsIn_of_wp_marks Try.func63 rfl trivial ?_ rfl
  simp only [Try.ntmps63, List.size_toArray, List.length_cons, List.length_nil, Nat.reduceAdd, Nat.reduceSub, Array.replicate_succ, Array.replicate_zero, List.push_toArray, List.append_toArray, List.nil_append, List.cons_append]
  gi_wp2
  have hB0 : Below w.heap.size w (((w.alloc (.cells #[.slice none 0 0] 34)).alloc (.map #[] 0)).alloc (.cells #[.map (some (w.heap.size + 1))] 77)) := (((Below.refl _ w).alloc (Nat.le_refl _) _).alloc (by simp) _).alloc (by simp; omega) _
  have bO := ((Boxed.new w 34 (.slice none 0 0)).alloc (.map #[] 0)).alloc (.cells #[.map (some (w.heap.size + 1))] 77)
  have bM := Boxed.new ((w.alloc (.cells #[.slice none 0 0] 34)).alloc (.map #[] 0)) 77 (.map (some (w.heap.size + 1)))
  have sM := (SeenM.made (w.alloc (.cells #[.slice none 0 0] 34))).kept (World.grownBy_alloc _ (.cells #[.map (some (w.heap.size + 1))] 77) none) (by simp)
  simp only [World.size_alloc] at bM sM
  refine wpIn_rangeFunc_ownG rfl (by omega) (gf := 77) (lb := #[.pointer (some ⟨Bt, 0, none⟩)]) rfl trivial (enters_of Try.func77 (by kernel_rfl) rfl)
    (each_stopsS d hd 2 Bt ts sv w hn hc hs) belowK_t (belowK_b (by simp; omega)) hB0 (fun _ => rfl)
    (fun pre W => OnceAt w.heap.size w.heap.size (w.heap.size + 1) (w.heap.size + 1 + 1) (valS pre) W ∧ Below w.heap.size w W)
    (fun _ _ _ => False)
    (OwnFrom.and (once_own _ _ _ _ _ (by simp)) (ownFrom_below (Nat.le_refl _) (by simp; omega)))
    (fun _ _ _ _ _ hs _ _ => hs)
    ⟨⟨⟨_, bO, World.ownsRow_nil _ _ _ _⟩, bM, sM⟩, hB0⟩
    (fun x => { tmps := #[.func (.func 77) #[] #[.pointer (some ⟨Bt, 0, none⟩)], undef, .slice none 0 0, .pointer (some ⟨w.heap.size, 0, none⟩), .pointer (some ⟨w.heap.size + 1 + 1, 0, none⟩), .int .i64 x.1, .map (some (w.heap.size + 1)), .func (.func 77) #[] #[.pointer (some ⟨Bt, 0, none⟩)], .int .i64 x.1, undef, undef, undef, undef, undef, undef, undef, undef, undef, undef, undef], defers := [] }) ?assign ?body ?done ?stop
  case assign =>
    intro l x W K hK
    gi_wp2
    exact hK
  case body =>
    rintro l pre x W ⟨⟨⟨v, hbx, hrow⟩, hcm, hsn⟩, hB⟩ hlt
    have hlk := hsn.look x.2
    have cO := hbx.cell
    have cM := hcm.cell
    by_cases hm : x.1 ∈ uniq [] (valS pre)
    · rw [decide_eq_true hm] at hlk
      have HJ : Hid (uniq [] (valS (pre ++ [x])) = uniq [] (valS pre)) := Lib.hid (by rw [valS_snoc, uniq_snoc]; unfold addU; rw [if_pos hm])
      clear hm
      gi_wp2
      refine ⟨KeepsFrom.refl _ _, Below.refl _ _, ?_, hB⟩
      unfold OnceAt
      rw [HJ.out]
      exact ⟨⟨v, hbx, hrow⟩, hcm, hsn⟩
    · rw [decide_eq_false hm] at hlk
      have HJ : Hid (uniq [] (valS (pre ++ [x])) = uniq [] (valS pre) ++ [x.1]) := Lib.hid (by rw [valS_snoc, uniq_snoc]; unfold addU; rw [if_neg hm])
      have hul : (uniq [] (valS pre)).length ≤ 1000000 := by have := uniq_len (valS pre) []; rw [valS_len] at this; simp at this; omega
      clear hm
      generalize uniq [] (valS pre) = us at *
      have hsz := hB.size
      obtain ⟨es, ck, hmb⟩ := hsn.heap
      obtain ⟨D, hown, hmap, hat⟩ := hsn
      gi_wp2_with (first
        | (gi_at_mapUpdate; refine wpListIn_mapUpdate_own _ rfl _ _ _ 77 rfl 3 4 (Maps.int_keyed Try.underlying3) Try.underlying77 _ (w.heap.size + 1) us.length D rfl hown (by unfold maxLen; omega) _ _ _ rfl rfl (Maps.keyOf_int_mk Try.underlying3 (wf_of x.2)) _ [] (plainElem_bool Try.underlying4 true) ?_; intro w1 hown1 hgrow1
           have hbx1 : Boxed w1 w.heap.size 34 v := hbx.kept hgrow1 (by simp)
           have hcm1 := hcm.kept hgrow1 (by simp)
           have hrow1 := hrow.kept hgrow1 (row_not_map hrow hmb)
           have hsn1 := SeenM.put x.2 (hmap.put _ _) ⟨D, rfl, hmap, hat⟩ hown1
           have hB1 := hB.grown hgrow1 hB.size (fun k e => by cases e; omega)
           have cO1 := hbx1.cell
           have cM1 := hcm1.cell)
        | (gi_at_builtin; refine wpListIn_append_own _ rfl _ _ 34 rfl w.heap.size 3 i0 (.int .i64 0) 1 8 Try.underlying34 hi hz0 hz1 hz2 rfl (by decide) _ _ _ rfl (hrow1.alloc _) ⟨w1.heap.size, 0, none⟩ 1 1 [.int .i64 x.1] rfl rfl (cell_one_new _ _ _) (by simp [Value.oneCell']) (by unfold maxLen; omega) (by omega) (by have := hB1.size; simp; omega) ?_; intro v' w3 hown' hg3 hnil3
           obtain ⟨hb3, hb4, hrow4, hko, hbl⟩ := hbx1.appended (by decide) hrow1 hB1.size (Nat.le_refl _) hown' hg3
           have cO3 := hb3.cell
           have fO3 := hb3.frozen
           obtain ⟨g', cap', rfl⟩ := ownsRow_succ hown'))
      have hg3' : (w1.alloc (.cells #[.int .i64 x.1] 3)).grownBy w3 v.ownBlock := hg3
      obtain ⟨es1, ck1, hmb1⟩ := hsn1.heap
      have hne := row_not_map hrow1 hmb1
      refine ⟨(KeepsFrom.of_grownBy hgrow1 (fun j e => by cases e; simp)).trans (hko.from _), ((Below.refl _ W).grown hgrow1 hsz (fun k e => by cases e; omega)).trans hbl, ?_, hB1.trans hbl⟩
      unfold OnceAt
      rw [HJ.out]
      refine ⟨⟨_, hb4, by simpa using hrow4⟩, ((hcm1.alloc _).kept hg3' (hcm1.not_row (by decide) hrow1)).kept (grownBy_setCell' w3 _ _) (by simp; omega), ?_⟩
      refine ((hsn1.kept (World.grownBy_alloc _ _ none) (by simp)).kept hg3' ?_).kept (grownBy_setCell' w3 _ _) (by simp)
      rcases hne with h | h
      · rw [h]; simp
      · exact fun e => h e.symm
  case done =>
    rintro D ys W hD hy ⟨⟨⟨v, hbx, hrow⟩, hcm, hsn⟩, hB⟩ hK
    have cO := hbx.cell
    have hy : valS ys = occL ts := hy
    rw [hy] at hrow
    clear hsn hcm
    gi_wp2
    refine ⟨by simp, .inl ⟨_, _, rfl, run_takeDeferred hK, ?_⟩⟩
    refine ⟨_, results_tmp rfl _ _ _, Ret.mk (v := v) ?_ (hB.trans (belowK_b (w := w) (Nat.le_refl _) W D _ _ (by simp at hD; omega) hK rfl rfl))⟩
    have hr := ownsRow_putObj hrow (.deferred none) hK rfl
    obtain ⟨A, c, rfl⟩ := own_slice hr
    exact ⟨A, c, rfl, hr⟩
  case stop =>
    rintro D c pre W _ _ h _
    exact h.elim

/-- A slice reads these numbers. -/
def RdI (l : List Int) (v : Value) (w : World) : Prop := ∃ A c, v = .slice A l.length c ∧ Rd w A (l.map (Value.int .i64))
theorem RdI.ext {w w' : World} {l : List Int} {v : Value} (h : RdI l v w) (e : Ext w w') : RdI l v w' := let ⟨A, c, h1, h2⟩ := h; ⟨A, c, h1, h2.ext e⟩
theorem IsRow.rdI {base : Nat} {l : List Int} {v : Value} {w' : World} (h : IsRow base 3 1 l.length (l.map (Value.int .i64)) v w') : RdI l v w' := h.rd
theorem onceR_any (d : Nat) (hd : d ≤ 1000000) (ts : List T) (sv : Value) (Bt : Nat) (w : World) (hn : wtL ts ≤ d) (hc : w.cell? ⟨Bt, 0, none⟩ = some sv) (hs : SlT w ts sv) :
    Calls Try.prog 63 #[.func (.func 77) #[] #[.pointer (some ⟨Bt, 0, none⟩)]] w (Ret w (RdI (uniq [] (occL ts)))) :=
  (once_any d hd ts sv Bt w hn hc hs).mono fun _ _ ⟨v, h1, h2, h3⟩ => ⟨v, h1, h2.rdI, h3⟩
/-- The same behind the block that each lays. -/
theorem onceE_any (d : Nat) (hd : d ≤ 1000000) (ts : List T) (sv : Value) (w : World) (g : Nat) (hg : w.heap.size = g) (hn : wtL ts ≤ d) (hs : SlT w ts sv) :
    Calls Try.prog 63 #[.func (.func 77) #[] #[.pointer (some ⟨g, 0, none⟩)]] (w.alloc (.cells #[sv] 22)) (Ret w (RdI (uniq [] (occL ts)))) := by
  subst hg
  exact (onceR_any d hd ts sv w.heap.size _ hn (Boxed.new w _ _).cell (hs.ext ((Ext.rfl' w).al _))).mono fun _ _ ⟨v, h1, h2, h3⟩ => ⟨v, h1, h2, ((Ext.rfl' w).al _).tr h3⟩

theorem varsP_any (d : Nat) (hd : d ≤ 1000000) (t : T) (v : Value) (w : World) (hn : wt t ≤ d) (hv : VT w t v) : Calls Try.prog 23 #[v] w (Ret w (RdI (uniq [] (occT t)))) := by
  have hv' := hide hv
  obtain ⟨sl, rfl, hs, -⟩ := hv.open_
  obtain ⟨A, c, xs, rfl, -⟩ := hs
  clear hv
  go_enter Try.func23, Try.ntmps23
  go_wp2_with fail
  have hsl := one_slice (VT.ext (unhide hv') ((Ext.rfl' w).al (.cells #[.int .i64 t.k, .int .i64 t.i, .string t.s, .slice A t.ar.length c] 24))) 24 (w.heap.size + 1) (by simp)
  refine (each_any _ _ _ 1 1 rfl).mono ?_
  rintro e w1 ⟨rfl, rfl⟩
  go_wp2_with fail
  refine (onceE_any d hd [t] _ _ _ (by simp) (by simpa [wtL] using hn) hsl).mono ?_
  rintro e w2 ⟨v, rfl, hr, he⟩
  have he := hide he
  rw [occL_one] at hr
  obtain ⟨A2, c2, rfl, hr⟩ := hr
  go_wp2
  go_ret
  exact Ret.mk ⟨A2, c2, rfl, hr⟩ ((((Ext.rfl' w).al _).al _).tr (unhide he))
theorem atomVars_any (d : Nat) (hd : d ≤ 1000000) (a : At) (v : Value) (w : World) (hn : wtL a.ts ≤ d) (hv : VA w a v) : Calls Try.prog 39 #[v] w (Ret w (RdI (uniq [] (occL a.ts)))) := by
  obtain ⟨sl, rfl, hs, -⟩ := hv.open_
  have hs' := hide hs
  obtain ⟨A, c, xs, rfl, -⟩ := hs
  clear hv
  go_enter Try.func39, Try.ntmps39
  go_wp2_with fail
  refine (each_any _ _ A a.ts.length c rfl).mono ?_
  rintro e w1 ⟨rfl, rfl⟩
  go_wp2_with fail
  refine (onceE_any d hd a.ts _ _ _ (by simp) hn (SlT.ext (unhide hs') ((Ext.rfl' w).al _))).mono ?_
  rintro e w2 ⟨v, rfl, hr, he⟩
  have he := hide he
  obtain ⟨A2, c2, rfl, hr⟩ := hr
  go_wp2
  go_ret
  exact Ret.mk ⟨A2, c2, rfl, hr⟩ (((Ext.rfl' w).al _).tr (unhide he))
theorem goalVars_any (d : Nat) (hd : d ≤ 1000000) (g : Gl) (v : Value) (w : World) (hn : wtL g.ts ≤ d) (hv : VG w g v) : Calls Try.prog 30 #[v] w (Ret w (RdI (uniq [] (occL g.ts)))) := by
  obtain ⟨sl, rfl, hs, -⟩ := hv.open_
  have hs' := hide hs
  obtain ⟨A, c, xs, rfl, -⟩ := hs
  clear hv
  go_enter Try.func30, Try.ntmps30
  go_wp2_with fail
  refine (each_any _ _ A g.ts.length c rfl).mono ?_
  rintro e w1 ⟨rfl, rfl⟩
  go_wp2_with fail
  refine (onceE_any d hd g.ts _ _ _ (by simp) hn (SlT.ext (unhide hs') ((Ext.rfl' w).al _))).mono ?_
  rintro e w2 ⟨v, rfl, hr, he⟩
  have he := hide he
  obtain ⟨A2, c2, rfl, hr⟩ := hr
  go_wp2
  go_ret
  exact Ret.mk ⟨A2, c2, rfl, hr⟩ (((Ext.rfl' w).al _).tr (unhide he))
end Go.Proofs.Ytcjbageaiafbmaa
