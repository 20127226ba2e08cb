/-
 Texts of the seat, merged.
-/
import Derived.Test.YtabbfihjeppbhaaGreatLMA
import Derived.Test.YtabbfihjeppbhaaGreatChecked
import Derived.WalkKit
import Derived.Lib.Hide
import Derived.Lib.AppendStr
import Derived.Deep.AppendLies
import Derived.Deep.AppendSrc
import Derived.Deep.Draws
import Derived.Deep.QuietTactic
import Derived.BigQuiet
import Derived.Deep.RegionWith
import Derived.Maps.AppendAt
import Derived.WalkSpells
import Derived.Orders
import Derived.Deep.Slices
import Derived.Deep.Fields
import Derived.ChangeArms
import Derived.Lib.OthersKept
import Derived.Lib.TrimU
import Derived.Lib.IndexAny
import Derived.Deep.LoopGhost
import Derived.Lib.Bytealg
import Derived.RangeFuncBox
import Derived.RangeFuncNested
import Derived.RangeFuncBound
import Derived.RangeFuncCalls
import Derived.RangeFuncLeaves
import Derived.Shelf.Abstract
import Derived.OwnWalkIn
import Derived.TacticsInMore
import Derived.LoopNIn
import Derived.LoopIn
import Derived.RangeFuncWrites
import Derived.Maps.OwnIn
import Derived.Maps.Views
import Derived.Laws.OwnMore
import Derived.Maps.OwnSet
import Derived.Test.YtabbfihjeppbhaaGreatRows
import Derived.ProofKit
import Derived.OpenShut
import Derived.Carry
import Derived.OrdersIn
import Derived.Great.BuildSlice
set_option linter.unusedVariables false
set_option linter.unusedSimpArgs false
set_option linter.unnecessarySimpa false
set_option linter.all false
namespace Go.Proofs.YtabbfihjeppbhaaGreat
set_option maxRecDepth 100000
open Go.RowKit
def layB : Lay (Int × T) where
 C := fun w b cs => ∃ ct, cs = .int .i64 b.1 :: ct ∧ I64 b.1 ∧ CT w b.2 ct
 n := 5
 pos := by omega
 ext := fun ⟨ct, h1, h2, h3⟩ e => ⟨ct, h1, h2, h3.ext e⟩
 len := fun ⟨ct, h1, _, h3⟩ => by rw [h1, List.length_cons, h3.len]
 one := fun ⟨ct, h1, _, h3⟩ u hu => by
  subst h1
  rcases List.mem_cons.1 hu with rfl | hu
  · rfl
  · exact h3.one u hu
theorem CT.open_ {w : World} {t : T} {cs : List Value} (h : CT w t cs) : ∃ sl, cs = [.int .i64 t.k, .int .i64 t.i, .string t.s, sl] ∧ SlT w t.ar sl ∧ I64 t.k ∧ I64 t.i ∧ t.s.size ≤ 9223372036854775807 := by
 obtain ⟨sl, e, h1⟩ := VT.open_ (w := w) (t := t) ⟨cs, rfl, h⟩
 injection e with e
 exact ⟨sl, by simpa using e, h1⟩
theorem VB.open_ {w : World} {p : Int × T} {v : Value} (h : layB.V w p v) : ∃ sl, v = .agg #[.int .i64 p.1, .int .i64 p.2.k, .int .i64 p.2.i, .string p.2.s, sl] ∧ I64 p.1 ∧ SlT w p.2.ar sl ∧ VT w p.2 (.agg #[.int .i64 p.2.k, .int .i64 p.2.i, .string p.2.s, sl]) := by
 obtain ⟨cs, rfl, ct, rfl, hi, hct⟩ := h
 have hvt : VT w p.2 (.agg ct.toArray) := ⟨ct, rfl, hct⟩
 obtain ⟨sl, rfl, hs, -⟩ := hct.open_
 exact ⟨sl, rfl, hi, hs, hvt⟩
theorem VB.mk {w : World} {x : Int} {t : T} {sl : Value} (hx : I64 x) (h : VT w t (.agg #[.int .i64 t.k, .int .i64 t.i, .string t.s, sl])) : layB.V w (x, t) (.agg #[.int .i64 x, .int .i64 t.k, .int .i64 t.i, .string t.s, sl]) :=
 ⟨[.int .i64 x, .int .i64 t.k, .int .i64 t.i, .string t.s, sl], rfl, [.int .i64 t.k, .int .i64 t.i, .string t.s, sl], rfl, hx, by simpa using h.ct⟩
/-! ### rows of a call's own -/
namespace Lay
variable {α : Type} (L : Lay α)
def Own (base : Nat) (e : TypeId) (w : World) (l : List α) (v : Value) : Prop := ∃ A c xs, v = .slice A l.length c ∧ w.ownsRow base e L.n (.slice A l.length c) l.length xs ∧ L.Ls w l xs
variable {L}
theorem Own.sl {base : Nat} {e : TypeId} {w : World} {l : List α} {v : Value} (h : L.Own base e w l v) : L.Sl w l v := by
 obtain ⟨A, c, xs, rfl, h1, h2⟩ := h
 refine ⟨A, c, xs, rfl, ?_, ?_, Rd.of_own h1, h2⟩
 · rcases h1.2 with ⟨e1, e2⟩ | ⟨g, cap, cur, hv, _, _, hc, _⟩
   · omega
   · injection hv with _ _ h3; omega
 · rcases h1.2 with ⟨e1, e2⟩ | ⟨g, cap, cur, hv, _, _, _, hm, _⟩
   · injection e1 with _ _ h3; omega
   · injection hv with _ _ h3; unfold maxLen at hm; omega
theorem Own.nil (base : Nat) (e : TypeId) (w : World) : L.Own base e w [] (.slice none 0 0) := ⟨none, 0, [], rfl, World.ownsRow_nil w base e L.n, Ls.nil w⟩
theorem qrK {w w' : World} {base : Nat} {e : TypeId} {size n : Nat} {v : Value} {xs : List Value} (h : w.ownsRow base e size v n xs) (he : Ext w w') : w'.ownsRow base e size v n xs :=
 h.kept (row := none) ⟨he.os, he.tape, he.output, he.size, fun k hk _ => he.block k hk⟩ (by cases v.ownBlock <;> simp)
theorem Own.ext {base : Nat} {e : TypeId} {w w' : World} {l : List α} {v : Value} (h : L.Own base e w l v) (he : Ext w w') : L.Own base e w' l v := by
 obtain ⟨A, c, xs, rfl, h1, h2⟩ := h
 exact ⟨A, c, xs, rfl, qrK h1 he, h2.ext he⟩
theorem Own.mono {base base' : Nat} {e : TypeId} {w : World} {l : List α} {v : Value} (h : L.Own base e w l v) (hb : base' ≤ base) : L.Own base' e w l v := by
 obtain ⟨A, c, xs, rfl, h1, h2⟩ := h
 refine ⟨A, c, xs, rfl, ⟨h1.1, ?_⟩, h2⟩
 rcases h1.2 with h3 | ⟨g, cap, cur, hv, hg, h4⟩
 · exact .inl h3
 · exact .inr ⟨g, cap, cur, hv, by omega, h4⟩
end Lay
theorem CL.set {w : World} : ∀ {ts : List T} {xs : List Value} {i : Nat} {t : T} {a b c d : Value}, CL w ts xs → i < ts.length → CT w t [a, b, c, d] → CL w (ts.set i t) ((((xs.set (i * 4) a).set (i * 4 + 1) b).set (i * 4 + 2) c).set (i * 4 + 3) d)
 | [], _, i, _, _, _, _, _, _, hi, _ => by simp at hi
 | u :: ts, xs, 0, t, a, b, c, d, h, _, ht => by
  simp only [CL] at h
  obtain ⟨cs, ys, rfl, h2, h3⟩ := h
  have hl := h2.len
  match cs, hl with
  | [p, q, r, s], _ =>
   show CL w (t :: ts) ([a, b, c, d] ++ ys)
   exact CL.cons ht h3
 | u :: ts, xs, i + 1, t, a, b, c, d, h, hi, ht => by
  simp only [CL] at h
  obtain ⟨cs, ys, rfl, h2, h3⟩ := h
  have hl := h2.len
  have ih := CL.set h3 (by simpa using hi) ht
  match cs, hl with
  | [p, q, r, s], _ =>
   have e : (i + 1) * 4 = i * 4 + 4 := by omega
   rw [e]
   show CL w (u :: ts.set i t) ([p, q, r, s] ++ (((ys.set (i * 4) a).set (i * 4 + 1) b).set (i * 4 + 2) c).set (i * 4 + 3) d)
   exact CL.cons h2 ih
theorem qlQ (op : Int) (w : World) : Calls Tryz.prog 79 #[.int .i64 op] w (zR w (zU op)) := by
 go_enter Tryz.func79, Tryz.ntmps79
 go_wp2
 all_goals go_ret
 all_goals (refine zR.mk ?_; unfold zU; (repeat' split) <;> first | rfl | (exfalso; simp at *; omega))
theorem qhG (n : Nat) (hM : n ≤ 1000000000) (a : At) (v : Value) (w : World) (hn : wtL a.ts ≤ n) (hv : VA w a v) : Calls Tryz.prog 8 #[v] w (Ret w (Is (.bool (zO a)))) := by
 obtain ⟨sl, rfl, hs, hz⟩ := hv.open_
 have hC := zB (fun (w' : World) (e : Ext w w') => qjr n hM a.ts sl w' hn (hs.ext e))
 obtain ⟨A, c, xs, rfl, -⟩ := hs
 have hnm := zB (qkm a.n (Lib.hid hz))
 have HE := zB (fun o => (Ext.rfl' w).al o)
 clear hv hn hz
 by_cases hj : zN a.n
 · rw [hj] at hnm
   by_cases h6 : a.ts.length ≤ 6
   · have HR : Hid (zO a = yd a.ts) := Lib.hid (by unfold zO; simp [hj, h6])
     have h6' : (a.ts.length : Int) ≤ 6 := by omega
     clear hj h6
     go_enter Tryz.func8, Tryz.ntmps8
     go_wp2_with fail
     refine ((zd hnm) _).mono ?_
     rintro e w1 ⟨rfl, rfl⟩
     go_wp2_with fail
     refine ((zd hC) _ ((zd HE) _)).mono ?_
     rintro e w2 ⟨v, rfl, hv, he⟩
     obtain rfl : v = _ := hv
     have he := zB (((zd HE) _).tr he)
     go_wp2
     go_ret
     exact Ret.mk (HR.out ▸ rfl) (zd he)
   · have HR : Hid (zO a = false) := Lib.hid (by unfold zO; simp [h6])
     have h6' : ¬ (a.ts.length : Int) ≤ 6 := by omega
     clear hj h6
     go_enter Tryz.func8, Tryz.ntmps8
     go_wp2_with fail
     refine ((zd hnm) _).mono ?_
     rintro e w1 ⟨rfl, rfl⟩
     go_wp2
     go_ret
     exact Ret.mk (HR.out ▸ rfl) ((zd HE) _)
 · have hj' : zN a.n = false := by simpa using hj
   rw [hj'] at hnm
   have HR : Hid (zO a = false) := Lib.hid (by unfold zO; simp [hj])
   clear hj hj'
   go_enter Tryz.func8, Tryz.ntmps8
   go_wp2_with fail
   refine ((zd hnm) _).mono ?_
   rintro e w1 ⟨rfl, rfl⟩
   go_wp2
   go_ret
   exact Ret.mk (HR.out ▸ rfl) ((zd HE) _)
set_option maxHeartbeats 1000000 in
theorem qjt (n : Nat) (hM : n ≤ 1000000000) (g : Gl) (v : Value) (w : World) (hn : wtL g.ts ≤ n) (hv : VG w g v) : Calls Tryz.prog 51 #[v] w (Ret w (Is (.bool (zF g)))) := by
 obtain ⟨sl, rfl, hs, ho, hz⟩ := hv.open_
 have hC := zB (fun (w' : World) (e : Ext w w') => qjr n hM g.ts sl w' hn (hs.ext e))
 have hCA := zB (fun (w' : World) (e : Ext w w') => qhG n hM ⟨g.n, g.ts⟩ _ w' hn (VA.mk (hs.ext e) hz))
 obtain ⟨A, c, xs, rfl, -⟩ := hs
 obtain ⟨y, hy⟩ : ∃ y, w.alloc (.cells #[.int .i64 g.op, .string g.n, .slice A g.ts.length c] 45) = y := ⟨_, rfl⟩
 have HE : Hid (Ext w y) := Lib.hid (by rw [← hy]; exact (Ext.rfl' w).al _)
 have b0 : y.cell? ⟨w.heap.size, 0, none⟩ = some (.int .i64 g.op) := by rw [← hy]; exact qdR w _ _ 0 _ rfl
 have b1 : y.cell? ⟨w.heap.size, 1, none⟩ = some (.string g.n) := by rw [← hy]; exact qdR w _ _ 1 _ rfl
 have b2 : y.cell? ⟨w.heap.size, 2, none⟩ = some (.slice A g.ts.length c) := by rw [← hy]; exact qdR w _ _ 2 _ rfl
 clear hv hn hz ho
 by_cases h0 : g.op = 0
 · have HR : Hid (zF g = zO ⟨g.n, g.ts⟩) := Lib.hid (by unfold zF; rw [if_pos h0])
   have k0 : (g.op == 0) = true := by simpa using h0
   clear h0
   go_enter Tryz.func51, Tryz.ntmps51
   go_wp2_with fail
   refine ((zd hCA) _ HE.out).mono ?_
   rintro e w1 ⟨v, rfl, hv, he⟩
   obtain rfl : v = _ := hv
   have he := zB (HE.out.tr he)
   go_wp2
   go_ret
   exact Ret.mk (HR.out ▸ rfl) (zd he)
 have HR : Hid (zF g = (decide (g.n.toList = []) && decide (zU g.op = (g.ts.length : Int)) && yd g.ts)) := Lib.hid (by unfold zF; rw [if_neg h0])
 have k0 : (g.op == 0) = false := by simpa using h0
 clear h0
 by_cases hs : g.n.toList = []
 · have hse : g.n.toList.isEmpty = true := by simp [hs]
   by_cases hl : zU g.op = (g.ts.length : Int)
   · have HX : Hid (zF g = yd g.ts) := Lib.hid (by rw [HR.out]; simp [hs, hl])
     have HA := Lib.hid hl
     clear hs hl
     go_enter Tryz.func51, Tryz.ntmps51
     go_wp2_with fail
     refine qbt [(0, true), (1, true), (2, true), (3, true), (4, true), (5, true), (7, true), (8, true), (9, true), (6, false), (10, true), (11, true), (12, true), (13, true), (14, true), (15, false), (16, true), (17, true)] (by kernel_rfl) (by kernel_rfl) (Ext y) (Ext.rfl' y).dr ?_
     iterate 9 (refine sQ rfl rfl ?_ ?_ ?_; rotate_left; (· (intro w' hw'; have z0 := hw'.cellOf b0; have z1 := hw'.cellOf b1; have z2 := hw'.cellOf b2; go_simp; try with_reducible rfl)); try simp only [Act.put, List.setIfInBounds_toArray, List.set_cons_succ, List.set_cons_zero])
     refine sL rfl rfl ?_
     go_wp2_with fail
     refine (qlQ _ _).mono ?_
     rintro e w1 ⟨rfl, rfl⟩
     rw [HA.out]
     go_wp2_with fail
     refine SQ.mk (Ext.rfl' y).dr ?_
     iterate 5 (refine sQ rfl rfl ?_ ?_ ?_; rotate_left; (· (intro w' hw'; have z0 := hw'.cellOf b0; have z1 := hw'.cellOf b1; have z2 := hw'.cellOf b2; go_simp; try with_reducible rfl)); try simp only [Act.put, List.setIfInBounds_toArray, List.set_cons_succ, List.set_cons_zero])
     refine sL rfl rfl ?_
     go_wp2_with fail
     refine ((zd hC) _ (HE.out.tr (Ext.rfl' y).dr)).mono ?_
     rintro e w2 ⟨v, rfl, hv, he⟩
     obtain rfl : v = _ := hv
     have hE2 := (Ext.rfl' y).dr.tr he
     clear he
     go_wp2_with fail
     refine SQ.mk hE2 ?_
     iterate 2 (refine sQ rfl rfl ?_ ?_ ?_; rotate_left; (· (intro w' hw'; have z0 := hw'.cellOf b0; have z1 := hw'.cellOf b1; have z2 := hw'.cellOf b2; go_simp; try with_reducible rfl)); try simp only [Act.put, List.setIfInBounds_toArray, List.set_cons_succ, List.set_cons_zero])
     refine sE ?_
     go_wp2
     go_ret
     exact Ret.mk (HX.out ▸ rfl) (HE.out.tr hE2)
   · have HX : Hid (zF g = false) := Lib.hid (by rw [HR.out]; simp [hl])
     obtain ⟨ar, har⟩ : ∃ ar, zU g.op = ar := ⟨_, rfl⟩
     have HA := Lib.hid har
     have hne : (ar == (g.ts.length : Int)) = false := by rw [← har]; simpa using hl
     clear hs hl har
     go_enter Tryz.func51, Tryz.ntmps51
     go_wp2_with fail
     refine qbt [(0, true), (1, true), (2, true), (3, true), (4, true), (5, true), (7, true), (8, true), (9, true), (6, false), (10, true), (11, true), (12, true), (13, true), (14, true), (15, false), (16, true), (17, true)] (by kernel_rfl) (by kernel_rfl) (Ext y) (Ext.rfl' y).dr ?_
     iterate 9 (refine sQ rfl rfl ?_ ?_ ?_; rotate_left; (· (intro w' hw'; have z0 := hw'.cellOf b0; have z1 := hw'.cellOf b1; have z2 := hw'.cellOf b2; go_simp; try with_reducible rfl)); try simp only [Act.put, List.setIfInBounds_toArray, List.set_cons_succ, List.set_cons_zero])
     refine sL rfl rfl ?_
     go_wp2_with fail
     refine (qlQ _ _).mono ?_
     rintro e w1 ⟨rfl, rfl⟩
     rw [HA.out]
     go_wp2_with fail
     refine SQ.mk (Ext.rfl' y).dr ?_
     iterate 3 (refine sQ rfl rfl ?_ ?_ ?_; rotate_left; (· (intro w' hw'; have z0 := hw'.cellOf b0; have z1 := hw'.cellOf b1; have z2 := hw'.cellOf b2; go_simp; try with_reducible rfl)); try simp only [Act.put, List.setIfInBounds_toArray, List.set_cons_succ, List.set_cons_zero])
     iterate 2 (refine sN rfl rfl ?_; simp only [Act.put, List.setIfInBounds_toArray, List.set_cons_succ, List.set_cons_zero])
     (refine sM rfl rfl ?_; simp only [Act.put, List.setIfInBounds_toArray, List.set_cons_succ, List.set_cons_zero])
     iterate 2 (refine sQ rfl rfl ?_ ?_ ?_; rotate_left; (· (intro w' hw'; have z0 := hw'.cellOf b0; have z1 := hw'.cellOf b1; have z2 := hw'.cellOf b2; go_simp; try with_reducible rfl)); try simp only [Act.put, List.setIfInBounds_toArray, List.set_cons_succ, List.set_cons_zero])
     refine sE ?_
     go_wp2
     go_ret
     exact Ret.mk (HX.out ▸ rfl) (HE.out.tr (Ext.rfl' y).dr)
 · have hse : g.n.toList.isEmpty = false := by simpa using hs
   have HX : Hid (zF g = false) := Lib.hid (by rw [HR.out]; simp [hs])
   clear hs
   go_enter Tryz.func51, Tryz.ntmps51
   go_wp2_with fail
   refine qbt [(0, true), (1, true), (2, true), (3, true), (4, true), (5, true), (7, true), (8, true), (9, true), (6, false), (10, true), (11, true), (12, true), (13, true), (14, true), (15, false), (16, true), (17, true)] (by kernel_rfl) (by kernel_rfl) (Ext y) (Ext.rfl' y).dr ?_
   iterate 4 (refine sQ rfl rfl ?_ ?_ ?_; rotate_left; (· (intro w' hw'; have z0 := hw'.cellOf b0; have z1 := hw'.cellOf b1; have z2 := hw'.cellOf b2; go_simp; try with_reducible rfl)); try simp only [Act.put, List.setIfInBounds_toArray, List.set_cons_succ, List.set_cons_zero])
   iterate 5 (refine sN rfl rfl ?_; simp only [Act.put, List.setIfInBounds_toArray, List.set_cons_succ, List.set_cons_zero])
   (refine sM rfl rfl ?_; simp only [Act.put, List.setIfInBounds_toArray, List.set_cons_succ, List.set_cons_zero])
   iterate 1 (refine sN rfl rfl ?_; simp only [Act.put, List.setIfInBounds_toArray, List.set_cons_succ, List.set_cons_zero])
   iterate 2 (refine sQ rfl rfl ?_ ?_ ?_; rotate_left; (· (intro w' hw'; have z0 := hw'.cellOf b0; have z1 := hw'.cellOf b1; have z2 := hw'.cellOf b2; go_simp; try with_reducible rfl)); try simp only [Act.put, List.setIfInBounds_toArray, List.set_cons_succ, List.set_cons_zero])
   iterate 2 (refine sN rfl rfl ?_; simp only [Act.put, List.setIfInBounds_toArray, List.set_cons_succ, List.set_cons_zero])
   (refine sM rfl rfl ?_; simp only [Act.put, List.setIfInBounds_toArray, List.set_cons_succ, List.set_cons_zero])
   iterate 2 (refine sQ rfl rfl ?_ ?_ ?_; rotate_left; (· (intro w' hw'; have z0 := hw'.cellOf b0; have z1 := hw'.cellOf b1; have z2 := hw'.cellOf b2; go_simp; try with_reducible rfl)); try simp only [Act.put, List.setIfInBounds_toArray, List.set_cons_succ, List.set_cons_zero])
   refine sE ?_
   go_wp2
   go_ret
   exact Ret.mk (HX.out ▸ rfl) (HE.out.tr (Ext.rfl' y).dr)
theorem qe3 (w : World) (cs : Array Value) (t : TypeId) (j : Nat) (u : Value) (g : Nat) (hg : w.heap.size = g) (h : cs[j]? = some u) : (w.alloc (.cells cs t)).cell? ⟨g, j, none⟩ = some u := by
 subst hg; exact qdR w cs t j u h
def zae (a b : At) : Int := orI (orI (ya a.n b.n) (zx a.ts.length b.ts.length)) (cmpL a.ts b.ts)
theorem orL2 (x y : Int) : orL [x, y] = orI x y := by
 unfold orI
 simp only [orL]
 by_cases h : x = 0 <;> by_cases k : y = 0 <;> simp [h, k]
theorem qtQ (a b : ByteArray) : Sgn (ya a b) := qtH _ _
set_option maxHeartbeats 1000000 in
theorem qni (n : Nat) (hM : n ≤ 1000000000) (a b : At) (v x : Value) (w : World) (hn : wtL a.ts ≤ n) (hv : VA w a v) (hx : VA w b x) : Calls Tryz.prog 111 #[v, x] w (Ret w (Is (.int .i64 (zae a b)))) := by
 obtain ⟨sa, rfl, hsa, -⟩ := hv.open_
 obtain ⟨sb, rfl, hsb, -⟩ := hx.open_
 have hC := zB (fun (w' : World) (e : Ext w w') (h : a.ts.length = b.ts.length) => qnT n hM a.ts b.ts sa sb w' hn h (hsa.ext e) (hsb.ext e))
 obtain ⟨Aa, ca, xsa, rfl, -⟩ := hsa
 obtain ⟨Ab, cb, xsb, rfl, -⟩ := hsb
 clear hv hx hn
 obtain ⟨y, hy⟩ : ∃ y, ((w.alloc (.cells #[.string a.n, .slice Aa a.ts.length ca] 34)).alloc (.cells #[.string b.n, .slice Ab b.ts.length cb] 34)) = y := ⟨_, rfl⟩
 have HE : Hid (Ext w y) := Lib.hid (by rw [← hy]; exact (((Ext.rfl' w).al _).al _))
 have ba0 : y.cell? ⟨w.heap.size, 0, none⟩ = some (.string a.n) := by rw [← hy]; exact ((Ext.rfl' _).al _).cellOf (qe3 w #[.string a.n, .slice Aa a.ts.length ca] 34 0 _ (w.heap.size) (by simp) rfl)
 have ba1 : y.cell? ⟨w.heap.size, 1, none⟩ = some (.slice Aa a.ts.length ca) := by rw [← hy]; exact ((Ext.rfl' _).al _).cellOf (qe3 w #[.string a.n, .slice Aa a.ts.length ca] 34 1 _ (w.heap.size) (by simp) rfl)
 have bb0 : y.cell? ⟨w.heap.size + 1, 0, none⟩ = some (.string b.n) := by rw [← hy]; exact qe3 (w.alloc (.cells #[.string a.n, .slice Aa a.ts.length ca] 34)) #[.string b.n, .slice Ab b.ts.length cb] 34 0 _ (w.heap.size + 1) (by simp) rfl
 have bb1 : y.cell? ⟨w.heap.size + 1, 1, none⟩ = some (.slice Ab b.ts.length cb) := by rw [← hy]; exact qe3 (w.alloc (.cells #[.string a.n, .slice Aa a.ts.length ca] 34)) #[.string b.n, .slice Ab b.ts.length cb] 34 1 _ (w.heap.size + 1) (by simp) rfl
 have HS := Lib.hid (qta (qtQ a.n b.n) (qtL a.ts.length b.ts.length))
 obtain ⟨q, hq⟩ : ∃ q, orI (ya a.n b.n) (zx a.ts.length b.ts.length) = q := ⟨_, rfl⟩
 have HQ := Lib.hid hq
 have HA : Hid (zae a b = orI q (cmpL a.ts b.ts)) := Lib.hid (by unfold zae; rw [hq])
 clear hq
 go_enter Tryz.func111, Tryz.ntmps111
 go_wp2_with fail
 refine qbt [(0, true), (1, true), (2, true), (3, true), (5, true), (6, true), (7, true), (8, true), (9, true), (10, true), (4, false), (11, false), (12, false), (13, false), (14, true)] (by kernel_rfl) (by kernel_rfl) (Ext y) (Ext.rfl' y).dr ?_
 iterate 10 (refine sQ rfl rfl ?_ ?_ ?_; rotate_left; (· (intro w' hw'; have za0 := hw'.cellOf ba0; have za1 := hw'.cellOf ba1; have zb0 := hw'.cellOf bb0; have zb1 := hw'.cellOf bb1; go_simp; try with_reducible rfl)); try simp only [Act.put, List.setIfInBounds_toArray, List.set_cons_succ, List.set_cons_zero])
 refine sL rfl rfl ?_
 go_wp2_with fail
 refine (qjJ _ _ _).mono ?_
 rintro e w1 ⟨rfl, rfl⟩
 skip
 go_wp2_with fail
 refine SQ.mk (Ext.rfl' y).dr ?_
 refine sL rfl rfl ?_
 go_wp2_with fail
 refine (qd1 _ _ _).mono ?_
 rintro e w2 ⟨rfl, rfl⟩
 skip
 go_wp2_with fail
 refine SQ.mk (Ext.rfl' y).dr ?_
 refine sL rfl rfl ?_
 go_wp2_with fail
 refine SQ.mk (((Ext.rfl' y).al _).dr) ?_
 refine sL rfl rfl ?_
 go_wp2_with fail
 refine (qrW _ 2 2 [ya a.n b.n, zx a.ts.length b.ts.length] _ rfl ((Rd.newAt y _ #[.int .i64 (ya a.n b.n), .int .i64 (zx a.ts.length b.ts.length)] 3 rfl).ext (Ext.rfl' _).dr) (by omega)).mono ?_
 rintro e w3 ⟨rfl, rfl⟩
 rw [orL2]
 go_wp2_with fail
 refine SQ.mk (((Ext.rfl' y).al _).dr) ?_
 iterate 1 (refine sQ rfl rfl ?_ ?_ ?_; rotate_left; (· (intro w' hw'; have za0 := hw'.cellOf ba0; have za1 := hw'.cellOf ba1; have zb0 := hw'.cellOf bb0; have zb1 := hw'.cellOf bb1; go_simp; try with_reducible rfl)); try simp only [Act.put, List.setIfInBounds_toArray, List.set_cons_succ, List.set_cons_zero])
 refine sE ?_
 rw [HQ.out]
 have hE3 := ((Ext.rfl' y).al (.cells #[.int .i64 (ya a.n b.n), .int .i64 (zx a.ts.length b.ts.length)] 3)).dr
 have za0 := (hE3).cellOf ba0
 have za1 := (hE3).cellOf ba1
 have zb0 := (hE3).cellOf bb0
 have zb1 := (hE3).cellOf bb1
 by_cases h0 : q = 0
 · have hb : (q != 0) = false := by simpa using h0
   have hlen : Hid (a.ts.length = b.ts.length) := Lib.hid (by
    have h1 := HQ.out
    rw [h0] at h1
    unfold orI at h1
    split at h1
    · rename_i h2; exact absurd h1 h2
    · have := qeO h1; omega)
   have HZ : Hid (zae a b = cmpL a.ts b.ts) := Lib.hid (by rw [HA.out]; unfold orI; rw [if_neg (by simpa using h0)])
   clear h0
   go_wp2_with fail
   refine ((zd hC) _ (HE.out.tr hE3) hlen.out).mono ?_
   rintro e w4 ⟨v, rfl, hv, he⟩
   obtain rfl : v = _ := hv
   have he := zB ((HE.out.tr hE3).tr he)
   go_wp2
   go_ret
   rw [HZ.out]
   exact Ret.mk rfl (zd he)
 · have hb : (q != 0) = true := by simpa using h0
   have HZ : Hid (zae a b = q) := Lib.hid (by rw [HA.out]; unfold orI; rw [if_pos h0])
   clear h0
   go_wp2
   go_ret
   rw [HZ.out]
   exact Ret.mk rfl (HE.out.tr hE3)
set_option maxHeartbeats 1000000 in
theorem qkZ (n : Nat) (hM : n ≤ 1000000000) (a b : At) (v x : Value) (w : World) (hn : wtL a.ts ≤ n) (hv : VA w a v) (hx : VA w b x) : Calls Tryz.prog 91 #[v, x] w (Ret w (Is (.int .i64 (zae a b)))) := by
 obtain ⟨sa, rfl, hsa, -⟩ := hv.open_
 obtain ⟨sb, rfl, hsb, -⟩ := hx.open_
 have hC := zB (fun (w' : World) (e : Ext w w') => qmC n hM a.ts b.ts sa sb w' hn (hsa.ext e) (hsb.ext e))
 obtain ⟨Aa, ca, xsa, rfl, -⟩ := hsa
 obtain ⟨Ab, cb, xsb, rfl, -⟩ := hsb
 clear hv hx hn
 obtain ⟨y, hy⟩ : ∃ y, ((w.alloc (.cells #[.string a.n, .slice Aa a.ts.length ca] 34)).alloc (.cells #[.string b.n, .slice Ab b.ts.length cb] 34)) = y := ⟨_, rfl⟩
 have HE : Hid (Ext w y) := Lib.hid (by rw [← hy]; exact (((Ext.rfl' w).al _).al _))
 have ba0 : y.cell? ⟨w.heap.size, 0, none⟩ = some (.string a.n) := by rw [← hy]; exact ((Ext.rfl' _).al _).cellOf (qe3 w #[.string a.n, .slice Aa a.ts.length ca] 34 0 _ (w.heap.size) (by simp) rfl)
 have ba1 : y.cell? ⟨w.heap.size, 1, none⟩ = some (.slice Aa a.ts.length ca) := by rw [← hy]; exact ((Ext.rfl' _).al _).cellOf (qe3 w #[.string a.n, .slice Aa a.ts.length ca] 34 1 _ (w.heap.size) (by simp) rfl)
 have bb0 : y.cell? ⟨w.heap.size + 1, 0, none⟩ = some (.string b.n) := by rw [← hy]; exact qe3 (w.alloc (.cells #[.string a.n, .slice Aa a.ts.length ca] 34)) #[.string b.n, .slice Ab b.ts.length cb] 34 0 _ (w.heap.size + 1) (by simp) rfl
 have bb1 : y.cell? ⟨w.heap.size + 1, 1, none⟩ = some (.slice Ab b.ts.length cb) := by rw [← hy]; exact qe3 (w.alloc (.cells #[.string a.n, .slice Aa a.ts.length ca] 34)) #[.string b.n, .slice Ab b.ts.length cb] 34 1 _ (w.heap.size + 1) (by simp) rfl
 obtain ⟨p, hp⟩ : ∃ p, ya a.n b.n = p := ⟨_, rfl⟩
 obtain ⟨q, hq⟩ : ∃ q, zx a.ts.length b.ts.length = q := ⟨_, rfl⟩
 have HP := Lib.hid hp
 have HQ := Lib.hid hq
 have HA : Hid (zae a b = orI (orI p q) (cmpL a.ts b.ts)) := Lib.hid (by unfold zae; rw [hp, hq])
 clear hp hq
 by_cases h0 : p = 0
 · have hb0 : (p == 0) = true := by simpa using h0
   by_cases h1 : q = 0
   · have hb1 : (q == 0) = true := by simpa using h1
     have hlen : Hid (a.ts.length = b.ts.length) := Lib.hid (by
      have := qeO (HQ.out.trans h1)
      omega)
     have HZ : Hid (zae a b = yq a.ts b.ts) := Lib.hid (by rw [HA.out, qiC hlen.out]; unfold orI; simp [h0, h1])
     clear h0 h1
     go_enter Tryz.func91, Tryz.ntmps91
     go_wp2_with fail
     refine (qgR _ _ _).mono ?_
     rintro e w1 ⟨rfl, rfl⟩
     rw [HP.out]
     go_wp2_with fail
     refine (qcU _ _ _).mono ?_
     rintro e w2 ⟨rfl, rfl⟩
     rw [HQ.out]
     go_wp2_with fail
     refine ((zd hC) _ HE.out).mono ?_
     rintro e w4 ⟨v, rfl, hv, he⟩
     obtain rfl : v = _ := hv
     have he := zB (HE.out.tr he)
     go_wp2
     go_ret
     rw [HZ.out]
     exact Ret.mk rfl (zd he)
   · have hb1 : (q == 0) = false := by simpa using h1
     have HZ : Hid (zae a b = q) := Lib.hid (by rw [HA.out]; unfold orI; simp [h0, h1])
     clear h0 h1
     go_enter Tryz.func91, Tryz.ntmps91
     go_wp2_with fail
     refine (qgR _ _ _).mono ?_
     rintro e w1 ⟨rfl, rfl⟩
     rw [HP.out]
     go_wp2_with fail
     refine (qcU _ _ _).mono ?_
     rintro e w2 ⟨rfl, rfl⟩
     rw [HQ.out]
     go_wp2
     go_ret
     rw [HZ.out]
     exact Ret.mk rfl HE.out
 · have hb0 : (p == 0) = false := by simpa using h0
   have HZ : Hid (zae a b = p) := Lib.hid (by rw [HA.out]; unfold orI; simp [h0])
   clear h0
   go_enter Tryz.func91, Tryz.ntmps91
   go_wp2_with fail
   refine (qgR _ _ _).mono ?_
   rintro e w1 ⟨rfl, rfl⟩
   rw [HP.out]
   go_wp2
   go_ret
   rw [HZ.out]
   exact Ret.mk rfl HE.out
theorem qmK (n : Nat) (hM : n ≤ 1000000000) (a b : At) (v x : Value) (w : World) (hn : wtL a.ts ≤ n) (hv : VA w a v) (hx : VA w b x) : Calls Tryz.prog 95 #[v, x] w (Ret w (Is (.bool (zae a b == 0)))) := by
 have hC := zB (fun (w' : World) (e : Ext w w') => qni n hM a b v x w' hn (hv.ext e) (hx.ext e))
 obtain ⟨sa, rfl, hsa, -⟩ := hv.open_
 obtain ⟨sb, rfl, hsb, -⟩ := hx.open_
 obtain ⟨Aa, ca, xsa, rfl, -⟩ := hsa
 obtain ⟨Ab, cb, xsb, rfl, -⟩ := hsb
 have HE := zB (fun o p => ((Ext.rfl' w).al o).al p)
 clear hv hx hn
 go_enter Tryz.func95, Tryz.ntmps95
 go_wp2_with fail
 refine ((zd hC) _ ((zd HE) _ _)).mono ?_
 rintro e w1 ⟨v, rfl, hv, he⟩
 obtain rfl : v = _ := hv
 have he := zB (((zd HE) _ _).tr he)
 generalize zae a b = q at *
 go_wp2
 go_ret
 exact Ret.mk rfl (zd he)
theorem qkq (n : Nat) (hM : n ≤ 1000000000) (a b : At) (v x : Value) (w : World) (hn : wtL a.ts ≤ n) (hv : VA w a v) (hx : VA w b x) : Calls Tryz.prog 70 #[v, x] w (Ret w (Is (.bool (zae a b == 0)))) := by
 have hC := zB (fun (w' : World) (e : Ext w w') => qkZ n hM a b v x w' hn (hv.ext e) (hx.ext e))
 obtain ⟨sa, rfl, hsa, -⟩ := hv.open_
 obtain ⟨sb, rfl, hsb, -⟩ := hx.open_
 obtain ⟨Aa, ca, xsa, rfl, -⟩ := hsa
 obtain ⟨Ab, cb, xsb, rfl, -⟩ := hsb
 have HE := zB (fun o p => ((Ext.rfl' w).al o).al p)
 clear hv hx hn
 go_enter Tryz.func70, Tryz.ntmps70
 go_wp2_with fail
 refine ((zd hC) _ ((zd HE) _ _)).mono ?_
 rintro e w1 ⟨v, rfl, hv, he⟩
 obtain rfl : v = _ := hv
 have he := zB (((zd HE) _ _).tr he)
 generalize zae a b = q at *
 go_wp2
 go_ret
 exact Ret.mk rfl (zd he)
theorem qlJ (n : Nat) (hM : n ≤ 1000000000) (ts us : List T) (v x : Value) (w : World) (hn : wtL ts ≤ n) (hv : SlT w ts v) (hx : SlT w us x) : Calls Tryz.prog 37 #[v, x] w (Ret w (Is (.bool (yq ts us == 0)))) := by
 have hC := zB (qmC n hM ts us v x w hn hv hx)
 obtain ⟨Aa, ca, xsa, rfl, -⟩ := hv
 obtain ⟨Ab, cb, xsb, rfl, -⟩ := hx
 clear hn
 go_enter Tryz.func37, Tryz.ntmps37
 go_wp2_with fail
 refine (zd hC).mono ?_
 rintro e w1 ⟨v, rfl, hv, he⟩
 obtain rfl : v = _ := hv
 generalize yq ts us = q at *
 have he := zB he
 go_wp2
 go_ret
 exact Ret.mk rfl (zd he)
def yn (a b : Gl) : Bool := a.op == b.op && a.n.toList == b.n.toList && a.ts.length == b.ts.length && cmpL a.ts b.ts == 0
set_option maxHeartbeats 1000000 in
theorem qlS (n : Nat) (hM : n ≤ 1000000000) (a b : Gl) (v x : Value) (w : World) (hn : wtL a.ts ≤ n) (hv : VG w a v) (hx : VG w b x) : Calls Tryz.prog 97 #[v, x] w (Ret w (Is (.bool (yn a b)))) := by
 obtain ⟨sa, rfl, hsa, -⟩ := hv.open_
 obtain ⟨sb, rfl, hsb, -⟩ := hx.open_
 have hC := zB (fun (w' : World) (e : Ext w w') (h : a.ts.length = b.ts.length) => qnT n hM a.ts b.ts sa sb w' hn h (hsa.ext e) (hsb.ext e))
 obtain ⟨Aa, ca, xsa, rfl, -⟩ := hsa
 obtain ⟨Ab, cb, xsb, rfl, -⟩ := hsb
 clear hv hx hn
 obtain ⟨y, hy⟩ : ∃ y, ((w.alloc (.cells #[.int .i64 a.op, .string a.n, .slice Aa a.ts.length ca] 45)).alloc (.cells #[.int .i64 b.op, .string b.n, .slice Ab b.ts.length cb] 45)) = y := ⟨_, rfl⟩
 have HE : Hid (Ext w y) := Lib.hid (by rw [← hy]; exact (((Ext.rfl' w).al _).al _))
 have ba0 : y.cell? ⟨w.heap.size, 0, none⟩ = some (.int .i64 a.op) := by rw [← hy]; exact ((Ext.rfl' _).al _).cellOf (qe3 w #[.int .i64 a.op, .string a.n, .slice Aa a.ts.length ca] 45 0 _ (w.heap.size) (by simp) rfl)
 have ba1 : y.cell? ⟨w.heap.size, 1, none⟩ = some (.string a.n) := by rw [← hy]; exact ((Ext.rfl' _).al _).cellOf (qe3 w #[.int .i64 a.op, .string a.n, .slice Aa a.ts.length ca] 45 1 _ (w.heap.size) (by simp) rfl)
 have ba2 : y.cell? ⟨w.heap.size, 2, none⟩ = some (.slice Aa a.ts.length ca) := by rw [← hy]; exact ((Ext.rfl' _).al _).cellOf (qe3 w #[.int .i64 a.op, .string a.n, .slice Aa a.ts.length ca] 45 2 _ (w.heap.size) (by simp) rfl)
 have bb0 : y.cell? ⟨w.heap.size + 1, 0, none⟩ = some (.int .i64 b.op) := by rw [← hy]; exact qe3 (w.alloc (.cells #[.int .i64 a.op, .string a.n, .slice Aa a.ts.length ca] 45)) #[.int .i64 b.op, .string b.n, .slice Ab b.ts.length cb] 45 0 _ (w.heap.size + 1) (by simp) rfl
 have bb1 : y.cell? ⟨w.heap.size + 1, 1, none⟩ = some (.string b.n) := by rw [← hy]; exact qe3 (w.alloc (.cells #[.int .i64 a.op, .string a.n, .slice Aa a.ts.length ca] 45)) #[.int .i64 b.op, .string b.n, .slice Ab b.ts.length cb] 45 1 _ (w.heap.size + 1) (by simp) rfl
 have bb2 : y.cell? ⟨w.heap.size + 1, 2, none⟩ = some (.slice Ab b.ts.length cb) := by rw [← hy]; exact qe3 (w.alloc (.cells #[.int .i64 a.op, .string a.n, .slice Aa a.ts.length ca] 45)) #[.int .i64 b.op, .string b.n, .slice Ab b.ts.length cb] 45 2 _ (w.heap.size + 1) (by simp) rfl
 by_cases h1 : a.op = b.op
 · by_cases h2 : a.n.toList = b.n.toList
   · by_cases h3 : a.ts.length = b.ts.length
     · have HZ : Hid (yn a b = (cmpL a.ts b.ts == 0)) := Lib.hid (by unfold yn; simp [h1, h2, h3])
       have k1 : (a.op == b.op) = true := by simpa using h1
       have k2 : (a.n.toList == b.n.toList) = true := by simpa using h2
       have k3 : ((a.ts.length : Int) == (b.ts.length : Int)) = true := by simp [h3]
       have H3 := Lib.hid h3
       clear h1 h2 h3
       go_enter Tryz.func97, Tryz.ntmps97
       go_wp2_with fail
       refine ((zd hC) _ HE.out H3.out).mono ?_
       rintro e w1 ⟨v, rfl, hv, he⟩
       obtain rfl : v = _ := hv
       have he := zB (HE.out.tr he)
       generalize cmpL a.ts b.ts = q at *
       go_wp2
       go_ret
       rw [HZ.out]
       exact Ret.mk rfl (zd he)
     · have HZ : Hid (yn a b = false) := Lib.hid (by unfold yn; simp [h3])
       have k1 : (a.op == b.op) = true := by simpa using h1
       have k2 : (a.n.toList == b.n.toList) = true := by simpa using h2
       have k3 : ((a.ts.length : Int) == (b.ts.length : Int)) = false := by simp; omega
       clear h1 h2 h3
       go_enter Tryz.func97, Tryz.ntmps97
       go_wp2
       go_ret
       rw [HZ.out]
       exact Ret.mk rfl HE.out
   · have HZ : Hid (yn a b = false) := Lib.hid (by unfold yn; simp [h2])
     have k1 : (a.op == b.op) = true := by simpa using h1
     have k2 : (a.n.toList == b.n.toList) = false := by simpa using h2
     clear h1 h2
     go_enter Tryz.func97, Tryz.ntmps97
     go_wp2
     go_ret
     rw [HZ.out]
     exact Ret.mk rfl HE.out
 · have HZ : Hid (yn a b = false) := Lib.hid (by unfold yn; simp [h1])
   have k1 : (a.op == b.op) = false := by simpa using h1
   clear h1
   go_enter Tryz.func97, Tryz.ntmps97
   go_wp2
   go_ret
   rw [HZ.out]
   exact Ret.mk rfl HE.out
set_option maxHeartbeats 1000000 in
theorem qkd (n : Nat) (hM : n ≤ 1000000000) (a b : Gl) (v x : Value) (w : World) (hn : wtL a.ts ≤ n) (hv : VG w a v) (hx : VG w b x) : Calls Tryz.prog 17 #[v, x] w (Ret w (Is (.bool (yn a b)))) := by
 obtain ⟨sa, rfl, hsa, -⟩ := hv.open_
 obtain ⟨sb, rfl, hsb, -⟩ := hx.open_
 have hC := zB (fun (w' : World) (e : Ext w w') (h : a.ts.length = b.ts.length) => qlJ n hM a.ts b.ts sa sb w' hn (hsa.ext e) (hsb.ext e))
 obtain ⟨Aa, ca, xsa, rfl, -⟩ := hsa
 obtain ⟨Ab, cb, xsb, rfl, -⟩ := hsb
 clear hv hx hn
 obtain ⟨y, hy⟩ : ∃ y, ((w.alloc (.cells #[.int .i64 a.op, .string a.n, .slice Aa a.ts.length ca] 45)).alloc (.cells #[.int .i64 b.op, .string b.n, .slice Ab b.ts.length cb] 45)) = y := ⟨_, rfl⟩
 have HE : Hid (Ext w y) := Lib.hid (by rw [← hy]; exact (((Ext.rfl' w).al _).al _))
 have ba0 : y.cell? ⟨w.heap.size, 0, none⟩ = some (.int .i64 a.op) := by rw [← hy]; exact ((Ext.rfl' _).al _).cellOf (qe3 w #[.int .i64 a.op, .string a.n, .slice Aa a.ts.length ca] 45 0 _ (w.heap.size) (by simp) rfl)
 have ba1 : y.cell? ⟨w.heap.size, 1, none⟩ = some (.string a.n) := by rw [← hy]; exact ((Ext.rfl' _).al _).cellOf (qe3 w #[.int .i64 a.op, .string a.n, .slice Aa a.ts.length ca] 45 1 _ (w.heap.size) (by simp) rfl)
 have ba2 : y.cell? ⟨w.heap.size, 2, none⟩ = some (.slice Aa a.ts.length ca) := by rw [← hy]; exact ((Ext.rfl' _).al _).cellOf (qe3 w #[.int .i64 a.op, .string a.n, .slice Aa a.ts.length ca] 45 2 _ (w.heap.size) (by simp) rfl)
 have bb0 : y.cell? ⟨w.heap.size + 1, 0, none⟩ = some (.int .i64 b.op) := by rw [← hy]; exact qe3 (w.alloc (.cells #[.int .i64 a.op, .string a.n, .slice Aa a.ts.length ca] 45)) #[.int .i64 b.op, .string b.n, .slice Ab b.ts.length cb] 45 0 _ (w.heap.size + 1) (by simp) rfl
 have bb1 : y.cell? ⟨w.heap.size + 1, 1, none⟩ = some (.string b.n) := by rw [← hy]; exact qe3 (w.alloc (.cells #[.int .i64 a.op, .string a.n, .slice Aa a.ts.length ca] 45)) #[.int .i64 b.op, .string b.n, .slice Ab b.ts.length cb] 45 1 _ (w.heap.size + 1) (by simp) rfl
 have bb2 : y.cell? ⟨w.heap.size + 1, 2, none⟩ = some (.slice Ab b.ts.length cb) := by rw [← hy]; exact qe3 (w.alloc (.cells #[.int .i64 a.op, .string a.n, .slice Aa a.ts.length ca] 45)) #[.int .i64 b.op, .string b.n, .slice Ab b.ts.length cb] 45 2 _ (w.heap.size + 1) (by simp) rfl
 by_cases h1 : a.op = b.op
 · by_cases h2 : a.n.toList = b.n.toList
   · by_cases h3 : a.ts.length = b.ts.length
     · have HZ : Hid (yn a b = (cmpL a.ts b.ts == 0)) := Lib.hid (by unfold yn; simp [h1, h2, h3])
       have k1 : (a.op == b.op) = true := by simpa using h1
       have k2 : (a.n.toList == b.n.toList) = true := by simpa using h2
       have k3 : ((a.ts.length : Int) == (b.ts.length : Int)) = true := by simp [h3]
       have H3 := Lib.hid h3
       clear h1 h2 h3
       go_enter Tryz.func17, Tryz.ntmps17
       go_wp2_with fail
       refine ((zd hC) _ HE.out H3.out).mono ?_
       rintro e w1 ⟨v, rfl, hv, he⟩
       obtain rfl : v = _ := hv
       have he := zB (HE.out.tr he)
       rw [qiC H3.out]
       generalize cmpL a.ts b.ts = q at *
       go_wp2
       go_ret
       rw [HZ.out]
       exact Ret.mk rfl (zd he)
     · have HZ : Hid (yn a b = false) := Lib.hid (by unfold yn; simp [h3])
       have k1 : (a.op == b.op) = true := by simpa using h1
       have k2 : (a.n.toList == b.n.toList) = true := by simpa using h2
       have k3 : ((a.ts.length : Int) == (b.ts.length : Int)) = false := by simp; omega
       clear h1 h2 h3
       go_enter Tryz.func17, Tryz.ntmps17
       go_wp2
       go_ret
       rw [HZ.out]
       exact Ret.mk rfl HE.out
   · have HZ : Hid (yn a b = false) := Lib.hid (by unfold yn; simp [h2])
     have k1 : (a.op == b.op) = true := by simpa using h1
     have k2 : (a.n.toList == b.n.toList) = false := by simpa using h2
     clear h1 h2
     go_enter Tryz.func17, Tryz.ntmps17
     go_wp2
     go_ret
     rw [HZ.out]
     exact Ret.mk rfl HE.out
 · have HZ : Hid (yn a b = false) := Lib.hid (by unfold yn; simp [h1])
   have k1 : (a.op == b.op) = false := by simpa using h1
   clear h1
   go_enter Tryz.func17, Tryz.ntmps17
   go_wp2
   go_ret
   rw [HZ.out]
   exact Ret.mk rfl HE.out
/-! ### vars -/
section
variable {P : Program} {w W : World} {ops : Array Oper} {rest : List Oper} {o : Oper} {a : Act} {Q : Exit → Act → World → Prop}
end
def yS (W0 : World) (l : List Int) (v : Value) (w : World) : Prop := zaY W0.heap.size 3 1 l.length (l.map (Value.int .i64)) v w
theorem yS.own {W0 : World} {l : List Int} {v : Value} {w : World} (h : yS W0 l v w) : ∃ A c, v = .slice A l.length c ∧ w.ownsRow W0.heap.size 3 1 (.slice A l.length c) l.length (l.map (Value.int .i64)) := h
theorem yS.rd {W0 : World} {l : List Int} {v : Value} {w : World} (h : yS W0 l v w) : RdI l v w := zaY.rd h
theorem yS.nil (W0 w : World) : yS W0 [] (.slice none 0 0) w := ⟨none, 0, rfl, by simpa using World.ownsRow_nil w W0.heap.size _ 1⟩
theorem qsf {w w' : World} {base : Nat} {e : TypeId} {size n : Nat} {v : Value} {xs : List Value} (h : w.ownsRow base e size v n xs) (he : Ext w w') : w'.ownsRow base e size v n xs :=
 h.kept (row := none) ⟨he.os, he.tape, he.output, he.size, fun k hk _ => he.block k hk⟩ (by cases v.ownBlock <;> simp)
theorem yS.kept {W0 : World} {l : List Int} {v : Value} {w w' : World} (h : yS W0 l v w) (he : Ext w w') : yS W0 l v w' := by
 obtain ⟨A, c, rfl, ho⟩ := h
 exact ⟨A, c, rfl, qsf ho he⟩
def zaG (W : World) (b : Nat) (xs : List Int) : Prop := ∃ D : DataW Unit, W.ownsMap Tryz.prog 3 unitElem b xs.length D ∧ Maps.IsMap D ∧ ∀ x : Int, I64 x → Maps.has D (.int .i64 x) = decide (x ∈ xs)
theorem zaG.ext {W W' : World} {b : Nat} {xs : List Int} (h : zaG W b xs) (he : Ext W W') : zaG W' b xs := by
 obtain ⟨D, h1, h2, h3⟩ := h
 have hlt := h1.lt
 exact ⟨D, h1.kept (row := none) ⟨he.os, he.tape, he.output, he.size, fun k hk _ => he.block k hk⟩ (by simp), h2, h3⟩
theorem zaG.lt {W : World} {b : Nat} {xs : List Int} (h : zaG W b xs) : b < W.heap.size := let ⟨_, h1, _⟩ := h; h1.lt
theorem zaG.put {W : World} {b : Nat} {xs : List Int} {D : DataW Unit} {x : Int} (hx : I64 x) (h2 : Maps.IsMap D) (h3 : ∀ x : Int, I64 x → Maps.has D (.int .i64 x) = decide (x ∈ xs)) (hown : W.ownsMap Tryz.prog 3 unitElem b (xs.length + 1) (D.put (.int .i64 x) (.agg []))) : zaG W b (xs ++ [x]) := by
 refine ⟨_, by simpa using hown, h2.put _ _, fun y hy => ?_⟩
 by_cases hxy : y = x
 · subst hxy
   rw [Maps.has_put_same h2 (by simp [WideAt.IsKeyLit])]
   simp
 · rw [Maps.has_put_other (by simp [hxy]), h3 y hy]
   simp [hxy]
theorem qfN {a b : Int} : orI a b = 0 ↔ a = 0 ∧ b = 0 := by
 unfold orI
 split
 · rename_i h
   exact ⟨fun k => absurd k h, fun k => k.1⟩
 · rename_i h
   exact ⟨fun k => ⟨Classical.not_not.1 h, k⟩, fun k => k.2⟩
theorem qhe {a b : Int} : zx a b = 0 ↔ a = b := ⟨qeO, fun h => h ▸ qmg a⟩
theorem qqk (x : List UInt8) : yH x x = 0 := by have := qrh x x; omega
theorem qnC : ∀ {x y : List UInt8}, yH x y = 0 ↔ x = y
 | [], [] => ⟨fun _ => rfl, fun _ => qqk _⟩
 | [], b :: y => by
  have : yH [] (b :: y) = -1 := by simp [yH, Op.bytesLess]
  rw [this]
  exact ⟨fun h => by omega, fun h => by cases h⟩
 | a :: x, [] => by
  have : yH (a :: x) [] = 1 := by simp [yH, Op.bytesLess]
  rw [this]
  exact ⟨fun h => by omega, fun h => by cases h⟩
 | a :: x, b :: y => by
  rw [qfi, qfN, qhe, qnC (x := x) (y := y)]
  constructor
  · rintro ⟨h1, rfl⟩
    congr 1
    exact UInt8.toNat_inj.1 (by omega)
  · intro h
    obtain ⟨rfl, rfl⟩ := List.cons.inj h
    exact ⟨rfl, rfl⟩
theorem qi8 {a b : ByteArray} (h : a.toList = b.toList) : a = b := by
 rw [Lib.toList_data, Lib.toList_data] at h
 cases a
 cases b
 simp only [ByteArray.mk.injEq]
 exact Array.toList_inj.1 h
theorem qll {a b : ByteArray} : ya a b = 0 ↔ a = b := by
 rw [qsE, qnC]
 exact ⟨qi8, fun h => by rw [h]⟩
/-! ### what a term uses -/
mutual
def clean : T → T
 | .mk k i s ar => if k = 1 ∨ k = 0 then .mk k i ⟨#[]⟩ [] else if k = 2 then .mk k 0 s (zE ar) else .mk k i s []
def zE : List T → List T
 | [] => []
 | t :: ts => clean t :: zE ts
end
theorem qk6 : ∀ l : List T, zE l = l.map clean
 | [] => rfl
 | t :: l => by rw [zE, qk6 l, List.map_cons]
theorem qfR (l : List T) : (zE l).length = l.length := by rw [qk6, List.length_map]
theorem qqQ {k l : Int} : zj k = zj l ↔ k = l ∨ (k ≠ 0 ∧ k ≠ 1 ∧ k ≠ 2 ∧ l ≠ 0 ∧ l ≠ 1 ∧ l ≠ 2) := by
 unfold zj
 repeat' split
 all_goals omega
mutual
theorem qkj : ∀ t u : T, zW t u = 0 ↔ clean t = clean u
 | .mk k i s ar, .mk l j r br => by
  rw [qhQ, clean, clean]
  show orI (zx (zj k) (zj l)) (if zj k = 0 ∨ zj k = 1 then zx i j else if zj k = 2 then orI (zx ar.length br.length) (orI (ya s r) (cmpL ar br)) else orI (zx k l) (orI (zx i j) (ya s r))) = 0 ↔ _
  rw [qfN, qhe, qqQ]
  by_cases h1 : k = 1 ∨ k = 0
  · have hr : zj k = 0 ∨ zj k = 1 := by
     unfold zj
     rcases h1 with rfl | rfl <;> simp
    rw [if_pos h1, if_pos hr, qhe]
    constructor
    · rintro ⟨h, rfl⟩
      obtain rfl : k = l := by omega
      rw [if_pos h1]
    · intro h
      split at h
      · injection h with h2 h3
        exact ⟨.inl h2, h3⟩
      · split at h
        · injection h with h2
          omega
        · injection h with h2
          omega
  · have hr : ¬ (zj k = 0 ∨ zj k = 1) := by
     unfold zj
     have h2 : k ≠ 1 := fun h => h1 (.inl h)
     have h3 : k ≠ 0 := fun h => h1 (.inr h)
     rw [if_neg h2, if_neg h3]
     split <;> omega
    rw [if_neg h1, if_neg hr]
    by_cases h2 : k = 2
    · subst h2
      have hr2 : zj 2 = 2 := rfl
      rw [if_pos hr2, if_pos rfl, qfN, qfN, qhe, qll]
      constructor
      · rintro ⟨h, hlen, rfl, hL⟩
        obtain rfl : l = 2 := by omega
        rw [if_neg (by omega), if_pos rfl, (qfs ar br (by omega)).1 hL]
      · intro h
        split at h
        · injection h with h3
          omega
        · split at h
          · injection h with h3 h4 h5 h6
            have hlen : ar.length = br.length := by
             have := congrArg List.length h6
             rwa [qfR, qfR] at this
            exact ⟨.inl h3, by omega, h5, (qfs ar br hlen).2 h6⟩
          · injection h with h3
            omega
    · have hr2 : zj k ≠ 2 := by
       unfold zj
       repeat' split
       all_goals omega
      rw [if_neg hr2, if_neg h2, qfN, qfN, qhe, qhe, qll]
      constructor
      · rintro ⟨h, rfl, rfl, rfl⟩
        rw [if_neg h1, if_neg h2]
      · intro h
        split at h
        · injection h with h3
          omega
        · split at h
          · injection h with h3
            omega
          · injection h with h3 h4 h5
            exact ⟨.inl h3, h3, h4, h5⟩
theorem qfs : ∀ l m : List T, l.length = m.length → (cmpL l m = 0 ↔ zE l = zE m)
 | [], [], _ => by simp [cmpL]
 | [], _ :: _, h => by cases h
 | _ :: _, [], h => by cases h
 | t :: l, u :: m, h => by
  rw [qgd, qfN, qkj t u, qfs l m (by simpa using h), zE, zE]
  exact ⟨fun ⟨h1, h2⟩ => by rw [h1, h2], fun h => List.cons.inj h⟩
end
mutual
theorem qlZ : ∀ t : T, yh (clean t) = yh t
 | .mk k i s ar => by
  rw [clean]
  split
  · rename_i h
    rcases h with rfl | rfl <;> simp [yh]
  · rename_i h
    split
    · rename_i h2
      subst h2
      simp [yh, qfS ar]
    · rename_i h2
      simp only [yh]
      rw [if_neg (fun e => h (.inl e)), if_neg h2, if_neg (fun e => h (.inl e)), if_neg h2]
theorem qfS : ∀ l : List T, zm (zE l) = zm l
 | [] => rfl
 | t :: l => by rw [zE, zm, zm, qlZ t, qfS l]
end
/-! ### variables renamed -/
mutual
def zbe (ρ : Int → Int) : T → T
 | .mk k i s ar => if k = 1 then .mk k (ρ i) s ar else if k = 2 then .mk k i s (zaR ρ ar) else .mk k i s ar
def zaR (ρ : Int → Int) : List T → List T
 | [] => []
 | t :: ts => zbe ρ t :: zaR ρ ts
end
mutual
theorem qtk : ∀ t : T, zbe (fun v => v) t = t
 | .mk k i s ar => by
  rw [zbe, qm8 ar]
  split
  · rfl
  · split <;> rfl
theorem qm8 : ∀ l : List T, zaR (fun v => v) l = l
 | [] => rfl
 | t :: l => by rw [zaR, qtk t, qm8 l]
end
/-! ### places in a list -/
def plc (l : List Int) (n : Int) : Int := if n ∈ l then ((l.idxOf n : Nat) : Int) else -1
theorem qk7 {l : List Int} {n : Int} (h : n ∈ l) : plc l n = ((l.idxOf n : Nat) : Int) := if_pos h
theorem qqL {l : List Int} {a b : Int} (ha : a ∈ l) (hb : b ∈ l) (h : plc l a = plc l b) : a = b := by
 rw [qk7 ha, qk7 hb] at h
 have h : l.idxOf a = l.idxOf b := by omega
 have h1 := List.getElem_idxOf (List.idxOf_lt_length_iff.2 ha)
 have h2 := List.getElem_idxOf (List.idxOf_lt_length_iff.2 hb)
 rw [← h1, ← h2]
 congr 1
theorem qry {ρ : Int → Int} {l : List Int} {x : Int} (hi : ∀ y ∈ l, ρ y = ρ x → y = x) : yz (l.map ρ) (ρ x) = (yz l x).map ρ := by
 unfold yz
 by_cases h : x ∈ l
 · rw [if_pos h, if_pos (List.mem_map_of_mem h)]
 · rw [if_neg h, if_neg (fun k => ?_), List.map_append]
   · rfl
   · obtain ⟨y, hy, he⟩ := List.mem_map.1 k
     exact h (hi y hy he ▸ hy)
theorem qnD {ρ : Int → Int} : ∀ (xs l : List Int), (∀ x ∈ l ++ xs, ∀ y ∈ l ++ xs, ρ x = ρ y → x = y) → z9 (l.map ρ) (xs.map ρ) = (z9 l xs).map ρ
 | [], l, _ => rfl
 | x :: xs, l, h => by
  show z9 (yz (l.map ρ) (ρ x)) (xs.map ρ) = (z9 (yz l x) xs).map ρ
  rw [qry fun y hy he => h y (by simp [hy]) x (by simp) he]
  refine qnD xs (yz l x) fun a ha b hb he => h a ?_ b ?_ he
  · rcases List.mem_append.1 ha with ha | ha
    · rcases qiV.1 ha with ha | rfl
      · simp [ha]
      · simp
    · simp [ha]
  · rcases List.mem_append.1 hb with hb | hb
    · rcases qiV.1 hb with hb | rfl
      · simp [hb]
      · simp
    · simp [hb]
theorem qgV : ∀ (xs l : List Int), l.Nodup → (z9 l xs).Nodup
 | [], l, h => h
 | x :: xs, l, h => by
  refine qgV xs (yz l x) ?_
  unfold yz
  split
  · exact h
  · rename_i hx
    rw [List.nodup_append]
    exact ⟨h, by simp, fun a ha b hb => by
     rw [List.mem_singleton.1 hb]
     rintro rfl
     exact hx ha⟩
def rng (n : Nat) : List Int := (List.range n).map fun (i : Nat) => (i : Int)
theorem qnb (n : Nat) : (rng n).length = n := by simp [rng]
theorem qsQ {n i : Nat} (h : i < (rng n).length) : (rng n)[i]'h = (i : Int) := by simp [rng]
theorem qs2 {n : Nat} {x : Int} : x ∈ rng n ↔ 0 ≤ x ∧ x < n := by
 unfold rng
 rw [List.mem_map]
 constructor
 · rintro ⟨i, hi, rfl⟩
   have := List.mem_range.1 hi
   omega
 · rintro ⟨h1, h2⟩
   exact ⟨x.toNat, List.mem_range.2 (by omega), by omega⟩
theorem qrx {l : List Int} (h : l.Nodup) : l.map (plc l) = rng l.length := by
 apply List.ext_getElem
 · rw [List.length_map, qnb]
 · intro i h1 h2
   have hi : i < l.length := by rwa [List.length_map] at h1
   rw [List.getElem_map, qk7 (List.getElem_mem hi), h.idxOf_getElem i hi]
   exact (qsQ h2).symm
theorem qrl (l : List Int) : z9 [] (l.map (plc (z9 [] l))) = rng (z9 [] l).length := by
 have := qnD (ρ := plc (z9 [] l)) l [] fun x hx y hy h => qqL (qiG.2 (.inr (by simpa using hx))) (qiG.2 (.inr (by simpa using hy))) h
 rw [List.map_nil] at this
 rw [this, qrx (qgV l [] List.nodup_nil)]
mutual
def zaj : T → List Int → T
 | .mk k i s ar, l => if k = 1 then .mk k (l.headD 0) s ar else if k = 2 then .mk k i s (yG ar l) else .mk k i s ar
def yG : List T → List Int → List T
 | [], _ => []
 | t :: ts, l => zaj t (l.take (yh t).length) :: yG ts (l.drop (yh t).length)
end
theorem qiD (i : Int) (s : ByteArray) (ar : List T) (l : List Int) : zaj (.mk 1 i s ar) l = .mk 1 (l.headD 0) s ar := by rw [zaj, if_pos rfl]
theorem qiw (i : Int) (s : ByteArray) (ar : List T) (l : List Int) : zaj (.mk 2 i s ar) l = .mk 2 i s (yG ar l) := by rw [zaj, if_neg (by omega), if_pos rfl]
theorem qhT {k : Int} (h1 : k ≠ 1) (h2 : k ≠ 2) (i : Int) (s : ByteArray) (ar : List T) (l : List Int) : zaj (.mk k i s ar) l = .mk k i s ar := by rw [zaj, if_neg h1, if_neg h2]
theorem qgH (i : Int) (s : ByteArray) (ar : List T) : yh (.mk 1 i s ar) = [i] := by rw [yh, if_pos rfl]
theorem qjg (i : Int) (s : ByteArray) (ar : List T) : yh (.mk 2 i s ar) = zm ar := by rw [yh, if_neg (by omega), if_pos rfl]
theorem qmQ {k : Int} (h1 : k ≠ 1) (h2 : k ≠ 2) (i : Int) (s : ByteArray) (ar : List T) : yh (.mk k i s ar) = [] := by rw [yh, if_neg h1, if_neg h2]
theorem qmn (i : Int) (s : ByteArray) (ar : List T) : clean (.mk 1 i s ar) = .mk 1 i ⟨#[]⟩ [] := by simp [clean]
theorem qqG (i : Int) (s : ByteArray) (ar : List T) : clean (.mk 0 i s ar) = .mk 0 i ⟨#[]⟩ [] := by simp [clean]
theorem qmm (i : Int) (s : ByteArray) (ar : List T) : clean (.mk 2 i s ar) = .mk 2 0 s (zE ar) := by simp [clean]
theorem qpx {k : Int} (h0 : k ≠ 0) (h1 : k ≠ 1) (h2 : k ≠ 2) (i : Int) (s : ByteArray) (ar : List T) : clean (.mk k i s ar) = .mk k i s [] := by simp [clean, h0, h1, h2]
theorem len1 {α : Type} {l : List α} (h : l.length = 1) (d : α) : [l.headD d] = l := by
 match l, h with
 | [x], _ => rfl
theorem y4 (k : Int) : k = 1 ∨ k = 2 ∨ (k ≠ 1 ∧ k ≠ 2) := by omega
mutual
theorem qsF : ∀ (t : T) (l : List Int), l.length = (yh t).length → yh (zaj t l) = l
 | .mk k i s ar, l, h => by
  rcases y4 k with rfl | rfl | ⟨h1, h2⟩
  · rw [qgH] at h
    rw [qiD, qgH, len1 h]
  · rw [qjg] at h
    rw [qiw, qjg, qjK ar l h]
  · rw [qmQ h1 h2] at h
    rw [qhT h1 h2, qmQ h1 h2, List.eq_nil_of_length_eq_zero h]
theorem qjK : ∀ (ts : List T) (l : List Int), l.length = (zm ts).length → zm (yG ts l) = l
 | [], l, h => (List.eq_nil_of_length_eq_zero h).symm
 | t :: ts, l, h => by
  rw [zm, List.length_append] at h
  rw [yG, zm, qsF t _ (by rw [List.length_take]; omega), qjK ts _ (by rw [List.length_drop]; omega), List.take_append_drop]
end
mutual
theorem qsZ (ρ : Int → Int) : ∀ t : T, zbe ρ t = zaj t ((yh t).map ρ)
 | .mk k i s ar => by
  rcases y4 k with rfl | rfl | ⟨h1, h2⟩
  · rw [qgH, qiD, zbe, if_pos rfl]
    rfl
  · rw [qjg, qiw, zbe, if_neg (by omega), if_pos rfl, qjP ρ ar]
  · rw [qhT h1 h2, zbe, if_neg h1, if_neg h2]
theorem qjP (ρ : Int → Int) : ∀ ts : List T, zaR ρ ts = yG ts ((zm ts).map ρ)
 | [] => rfl
 | t :: ts => by
  have h : ((yh t).map ρ).length = (yh t).length := List.length_map _
  rw [zaR, zm, yG, List.map_append, ← h, List.take_left, List.drop_left, qsZ ρ t, qjP ρ ts]
end
mutual
theorem qp5 : ∀ (t : T) (l : List Int), clean (zaj t l) = zaj (clean t) l
 | .mk k i s ar, l => by
  rcases y4 k with rfl | rfl | ⟨h1, h2⟩
  · rw [qiD, qmn, qmn, qiD]
  · rw [qiw, qmm, qmm, qiw, qif ar l]
  · rw [qhT h1 h2]
    rcases Classical.em (k = 0) with rfl | h0
    · rw [qqG, qhT h1 h2]
    · rw [qpx h0 h1 h2, qhT h1 h2]
theorem qif : ∀ (ts : List T) (l : List Int), zE (yG ts l) = yG (zE ts) l
 | [], _ => rfl
 | t :: ts, l => by rw [yG, zE, zE, yG, qlZ t, qp5 t, qif ts]
end
/-! ### constraints -/
def zA : List At → List Int
 | [] => []
 | a :: l => zm a.ts ++ zA l
def yD : List At → List Int → List At
 | [], _ => []
 | a :: xs, l => ⟨a.n, yG a.ts (l.take (zm a.ts).length)⟩ :: yD xs (l.drop (zm a.ts).length)
def zC : List At → List At
 | [] => []
 | a :: xs => ⟨a.n, zE a.ts⟩ :: zC xs
theorem qhx : ∀ (xs : List At) (l : List Int), l.length = (zA xs).length → zA (yD xs l) = l
 | [], l, h => (List.eq_nil_of_length_eq_zero h).symm
 | a :: xs, l, h => by
  rw [zA, List.length_append] at h
  rw [yD, zA, qjK a.ts _ (by rw [List.length_take]; omega), qhx xs _ (by rw [List.length_drop]; omega), List.take_append_drop]
theorem qe2 : ∀ xs : List At, zA (zC xs) = zA xs
 | [] => rfl
 | a :: xs => by rw [zC, zA, zA, qfS, qe2 xs]
theorem qjb : ∀ (xs : List At) (l : List Int), zC (yD xs l) = yD (zC xs) l
 | [], _ => rfl
 | a :: xs, l => by rw [yD, zC, zC, yD, qfS, qif, qjb xs]
/-! ### goals -/
def zV : List Gl → List Int
 | [] => []
 | a :: l => zm a.ts ++ zV l
def zad : List Gl → List Int → List Gl
 | [], _ => []
 | a :: xs, l => ⟨a.op, a.n, yG a.ts (l.take (zm a.ts).length)⟩ :: zad xs (l.drop (zm a.ts).length)
def zL : List Gl → List Gl
 | [] => []
 | a :: xs => ⟨a.op, a.n, zE a.ts⟩ :: zL xs
theorem qnK : ∀ a b : List Gl, zV (a ++ b) = zV a ++ zV b
 | [], b => rfl
 | x :: a, b => by rw [List.cons_append, zV, zV, qnK a b, List.append_assoc]
theorem qjD : ∀ (xs : List Gl) (l : List Int), l.length = (zV xs).length → zV (zad xs l) = l
 | [], l, h => (List.eq_nil_of_length_eq_zero h).symm
 | a :: xs, l, h => by
  rw [zV, List.length_append] at h
  rw [zad, zV, qjK a.ts _ (by rw [List.length_take]; omega), qjD xs _ (by rw [List.length_drop]; omega), List.take_append_drop]
theorem qh9 : ∀ xs : List Gl, zV (zL xs) = zV xs
 | [] => rfl
 | a :: xs => by rw [zL, zV, zV, qfS, qh9 xs]
theorem qjh : ∀ (xs : List Gl) (l : List Int), zL (zad xs l) = zad (zL xs) l
 | [], _ => rfl
 | a :: xs, l => by rw [zad, zL, zL, zad, qfS, qif, qjh xs]
/-! ### sameness -/
theorem qqq : ∀ {a b : At}, zae a b = 0 ↔ a.n = b.n ∧ zE a.ts = zE b.ts := by
 intro a b
 unfold zae
 rw [qfN, qfN, qll, qhe]
 constructor
 · rintro ⟨⟨h1, h2⟩, h3⟩
   exact ⟨h1, (qfs a.ts b.ts (by omega)).1 h3⟩
 · rintro ⟨h1, h2⟩
   have hl : a.ts.length = b.ts.length := by
    have := congrArg List.length h2
    rwa [qfR, qfR] at this
   exact ⟨⟨h1, by omega⟩, (qfs a.ts b.ts hl).2 h2⟩
theorem qqJ : ∀ {a b : Gl}, yn a b = true ↔ a.op = b.op ∧ a.n = b.n ∧ zE a.ts = zE b.ts := by
 intro a b
 unfold yn
 simp only [Bool.and_eq_true, beq_iff_eq]
 constructor
 · rintro ⟨⟨⟨h1, h2⟩, h3⟩, h4⟩
   exact ⟨h1, qi8 h2, (qfs a.ts b.ts h3).1 h4⟩
 · rintro ⟨h1, h2, h3⟩
   have hl : a.ts.length = b.ts.length := by
    have := congrArg List.length h3
    rwa [qfR, qfR] at this
   exact ⟨⟨⟨h1, by rw [h2]⟩, hl⟩, (qfs a.ts b.ts hl).2 h3⟩
structure Ru where
 n : ByteArray
 K : List At
 R : List At
 G : List Gl
 B : List Gl
 v : Int
def wv (r : Ru) (n : Int) : Ru := ⟨r.n, r.K, r.R, r.G, r.B, n⟩
def occH (r : Ru) : List Int := zA r.K ++ zA r.R
def zaE (r : Ru) : List Int := zV r.G ++ zV r.B
def yt (r : Ru) : List Int := occH r ++ zaE r
def setH (r : Ru) (l : List Int) : Ru := { r with K := yD r.K (l.take (zA r.K).length), R := yD r.R (l.drop (zA r.K).length) }
def zbl (r : Ru) (l : List Int) : Ru := { r with G := zad r.G (l.take (zV r.G).length), B := zad r.B (l.drop (zV r.G).length) }
def setU (r : Ru) (l : List Int) : Ru := zbl (setH r (l.take (occH r).length)) (l.drop (occH r).length)
def zX (r : Ru) : Ru := ⟨r.n, zC r.K, zC r.R, zL r.G, zL r.B, r.v⟩
theorem qid (r : Ru) : occH (zX r) = occH r := by
 unfold occH zX
 rw [qe2, qe2]
theorem qpa (r : Ru) : zaE (zX r) = zaE r := by
 unfold zaE zX
 rw [qh9, qh9]
theorem qlc (r : Ru) : yt (zX r) = yt r := by
 unfold yt
 rw [qid, qpa]
theorem qkE {r : Ru} {l : List Int} (h : l.length = (occH r).length) : occH (setH r l) = l := by
 unfold occH at h ⊢
 rw [List.length_append] at h
 unfold setH
 dsimp only
 rw [qhx _ _ (by rw [List.length_take]; omega), qhx _ _ (by rw [List.length_drop]; omega), List.take_append_drop]
theorem qpU (r : Ru) (l : List Int) : zaE (setH r l) = zaE r := rfl
theorem qpW (r : Ru) (l : List Int) : occH (zbl r l) = occH r := rfl
theorem qpX {r : Ru} {l : List Int} (h : l.length = (zaE r).length) : zaE (zbl r l) = l := by
 unfold zaE at h ⊢
 rw [List.length_append] at h
 unfold zbl
 dsimp only
 rw [qjD _ _ (by rw [List.length_take]; omega), qjD _ _ (by rw [List.length_drop]; omega), List.take_append_drop]
theorem qrg {r : Ru} {l : List Int} (h : l.length = (yt r).length) : yt (setU r l) = l := by
 unfold yt at h ⊢
 rw [List.length_append] at h
 unfold setU
 rw [qpW, qkE (by rw [List.length_take]; omega), qpX (by rw [List.length_drop, qpU]; omega), List.take_append_drop]
theorem qnt (r : Ru) (l : List Int) : zX (setH r l) = setH (zX r) l := by
 unfold setH zX
 dsimp only
 rw [qe2, qjb, qjb]
theorem qng (r : Ru) (l : List Int) : zX (zbl r l) = zbl (zX r) l := by
 unfold zbl zX
 dsimp only
 rw [qh9, qjh, qjh]
theorem qlj (r : Ru) (l : List Int) : zX (setU r l) = setU (zX r) l := by
 unfold setU
 rw [qng, qnt, qid]
def Sm (a b : Ru) : Prop := zX a = zX b
theorem Sm.occ {a b : Ru} (h : Sm a b) : yt a = yt b := by rw [← qlc a, h, qlc]
theorem Sm.occH {a b : Ru} (h : Sm a b) : occH a = occH b := by rw [← qid a, h, qid]
theorem Sm.set {a b : Ru} (h : Sm a b) (l : List Int) : Sm (setU a l) (setU b l) := by
 unfold Sm at h ⊢
 rw [qlj, qlj, h]
theorem Sm.v {a b : Ru} (h : Sm a b) : a.v = b.v := (congrArg Ru.v (show zX a = zX b from h) : (zX a).v = (zX b).v)
/-! ### numbers -/
def vsU (r : Ru) : List Int := z9 [] (yt r)
def Nb (r : Ru) : Ru := wv (setU r ((yt r).map (plc (vsU r)))) ((vsU r).length : Int)
theorem qtv (r : Ru) (n : Int) : yt (wv r n) = yt r := rfl
theorem qsC (r : Ru) : yt (Nb r) = (yt r).map (plc (vsU r)) := by
 unfold Nb
 rw [qtv, qrg (List.length_map _)]
theorem qtn (r : Ru) : vsU (Nb r) = rng (vsU r).length := by
 unfold vsU
 rw [qsC]
 exact qrl _
theorem qno {r : Ru} {x : Int} : x ∈ vsU r ↔ x ∈ yt r := by
 unfold vsU
 rw [qiG]
 simp
theorem Sm.nb {a b : Ru} (h : Sm a b) : Sm (Nb a) (Nb b) := by
 have e := h.occ
 have h2 := h.set ((yt a).map (plc (vsU a)))
 unfold Sm at h2 ⊢
 unfold Nb
 have hv : vsU a = vsU b := by unfold vsU; rw [e]
 rw [← e, ← hv]
 exact congrArg (fun r : Ru => wv r ((vsU a).length : Int)) h2
def zaL (r : Ru) : Prop := Sm (Nb r) r
theorem zaL.vs {r : Ru} (h : zaL r) : vsU r = rng (vsU r).length := by
 have e : yt (Nb r) = yt r := Sm.occ h
 have := qtn r
 unfold vsU at this ⊢
 rwa [e] at this
theorem zaL.v {r : Ru} (h : zaL r) : r.v = ((vsU r).length : Int) := (Sm.v h).symm
def z5 : List Int → Int → List Int → List Int × List (Int × Int)
 | _, _, [] => ([], [])
 | s, n, v :: l => if v ∈ s then (n :: (z5 s (n + 1) l).1, (n, v) :: (z5 s (n + 1) l).2) else (v :: (z5 (s ++ [v]) n l).1, (z5 (s ++ [v]) n l).2)
theorem qjo {s : List Int} {n v : Int} {l : List Int} (h : v ∈ s) : z5 s n (v :: l) = (n :: (z5 s (n + 1) l).1, (n, v) :: (z5 s (n + 1) l).2) := by rw [z5, if_pos h]
theorem qhZ {s : List Int} {n v : Int} {l : List Int} (h : v ∉ s) : z5 s n (v :: l) = (v :: (z5 (s ++ [v]) n l).1, (z5 (s ++ [v]) n l).2) := by rw [z5, if_neg h]
theorem qj6 : ∀ (l s : List Int) (n : Int), (z5 s n l).1.length = l.length
 | [], _, _ => rfl
 | v :: l, s, n => by
  by_cases h : v ∈ s
  · rw [qjo h, List.length_cons, List.length_cons, qj6 l]
  · rw [qhZ h, List.length_cons, List.length_cons, qj6 l]
theorem qlD : ∀ (l s : List Int) (n : Int), (z5 s n l).2.length + (z9 s l).length = s.length + l.length
 | [], s, _ => by
  rw [qih, z5]
  simp
 | v :: l, s, n => by
  by_cases h : v ∈ s
  · have hu : z9 s (v :: l) = z9 s l := by
     show z9 (yz s v) l = _
     rw [yz, if_pos h]
    have := qlD l s (n + 1)
    rw [qjo h, hu, List.length_cons, List.length_cons]
    omega
  · have hu : z9 s (v :: l) = z9 (s ++ [v]) l := by
     show z9 (yz s v) l = _
     rw [yz, if_neg h]
    have := qlD l (s ++ [v]) n
    rw [List.length_append, List.length_singleton] at this
    rw [qhZ h, hu, List.length_cons]
    show (z5 (s ++ [v]) n l).2.length + _ = _
    omega
theorem qhW : ∀ (l s : List Int) (n x : Int), x ∈ l → x ∉ s → x ∈ (z5 s n l).1
 | [], _, _, x, h, _ => by cases h
 | v :: l, s, n, x, h, hs => by
  by_cases hv : v ∈ s
  · rw [qjo hv]
    rcases List.mem_cons.1 h with rfl | h
    · exact absurd hv hs
    · exact List.mem_cons_of_mem _ (qhW l s (n + 1) x h hs)
  · rw [qhZ hv]
    by_cases hx : x = v
    · rw [hx]
      exact List.mem_cons_self
    · rcases List.mem_cons.1 h with h | h
      · exact absurd h hx
      · exact List.mem_cons_of_mem _ (qhW l (s ++ [v]) n x h fun k => by
         rcases List.mem_append.1 k with k | k
         · exact hs k
         · exact hx (List.mem_singleton.1 k))
theorem qlx : ∀ (l s : List Int) (n a : Int), n ≤ a → a < n + (z5 s n l).2.length → a ∈ (z5 s n l).1
 | [], s, n, a, h1, h2 => by
  rw [z5] at h2
  simp at h2
  omega
 | v :: l, s, n, a, h1, h2 => by
  by_cases hv : v ∈ s
  · rw [qjo hv] at h2 ⊢
    rw [List.length_cons] at h2
    by_cases ha : a = n
    · rw [ha]
      exact List.mem_cons_self
    · exact List.mem_cons_of_mem _ (qlx l s (n + 1) a (by omega) (by omega))
  · rw [qhZ hv] at h2 ⊢
    exact List.mem_cons_of_mem _ (qlx l (s ++ [v]) n a h1 h2)
theorem qiU : ∀ (l s : List Int) (n : Int) (t : Int × Int), t ∈ (z5 s n l).2 → (n ≤ t.1 ∧ t.1 < n + (z5 s n l).2.length) ∧ t.2 ∈ l ∧ (t.2 ∈ s ∨ t.2 ∈ (z5 s n l).1)
 | [], _, _, t, h => by cases h
 | v :: l, s, n, t, h => by
  by_cases hv : v ∈ s
  · rw [qjo hv] at h ⊢
    rw [List.length_cons]
    rcases List.mem_cons.1 h with rfl | h
    · exact ⟨⟨by dsimp only; omega, by dsimp only; omega⟩, by simp, .inl hv⟩
    · obtain ⟨h1, h2, h3⟩ := qiU l s (n + 1) t h
      exact ⟨⟨by omega, by omega⟩, by simp [h2], h3.imp id fun k => List.mem_cons_of_mem _ k⟩
  · rw [qhZ hv] at h ⊢
    obtain ⟨h1, h2, h3⟩ := qiU l (s ++ [v]) n t h
    refine ⟨h1, by simp [h2], ?_⟩
    rcases h3 with h3 | h3
    · rcases List.mem_append.1 h3 with h3 | h3
      · exact .inl h3
      · rw [List.mem_singleton.1 h3]
        exact .inr List.mem_cons_self
    · exact .inr (List.mem_cons_of_mem _ h3)
def sub1 (a b : Int) (l : List Int) : List Int := l.map fun v => if v = a then b else v
end Go.Proofs.YtabbfihjeppbhaaGreat
namespace Go.Proofs.YtabbfihjeppbhaaGreat
set_option maxRecDepth 100000
open Go.ChangeShapes Go.WideShapes Go.ChangeAt Go.RowKit
theorem own : ownKnob Tryz.prog.godebug = none := by kernel_rfl
theorem qtM : laidOutB Tryz.prog = true := by kernel_rfl
theorem qiE {H : Type} {enc : TypeId × Value → H} {P : Program} (hl : laidOutB P = true) {W W' : World} (hb : Ext W W') : ∀ {ts : List TypeId} {vs : List Value} {ds : List (DataW H)} {ps : List MemPlace},
 (∀ t ∈ ts, P.readableRec t = true ∧ t < P.types.size) → (∀ x ∈ ps, x.block < W.heap.size) → DataW.TrodAll enc P W 0 (fun _ => true) true ts vs ds ps → DataW.TrodAll enc P W' 0 (fun b => decide (b < W.heap.size)) true ts vs ds ps
 | [], [], [], _, _, _, h => h
 | t :: ts, v :: vs, d :: ds, ps, ht, hlt, h => by
  obtain ⟨p, q, h1, h2, rfl⟩ := h
  refine ⟨p, q, ?_, ?_, rfl⟩
  · exact Below.trod hl (ht t (List.mem_cons_self)).1 (ht t (List.mem_cons_self)).2 h1 hb fun x hx => hlt x (List.mem_append_left _ hx)
  · exact qiE hl hb (fun t' h' => ht t' (List.mem_cons_of_mem _ h')) (fun x hx => hlt x (List.mem_append_right _ hx)) h2
 | [], [], _ :: _, _, _, _, h => h.elim
 | [], _ :: _, _, _, _, _, h => h.elim
 | _ :: _, [], _, _, _, _, h => h.elim
 | _ :: _, _ :: _, [], _, _, _, h => h.elim
theorem qkw {H : Type} {enc : TypeId × Value → H} {P : Program} {W : World} {base : Nat} {sp : Nat → Bool} {hd : Bool} : ∀ {ts : List TypeId} {vs : List Value} {ds : List (DataW H)} {ps : List MemPlace}, DataW.TrodAll enc P W base sp hd ts vs ds ps → ds.length = ts.length
 | [], [], [], _, _ => rfl
 | _ :: _, _ :: _, _ :: _, _, h => by
  obtain ⟨_, _, _, h2, _⟩ := h
  simp [qkw h2]
 | [], [], _ :: _, _, h => h.elim
 | [], _ :: _, _, _, h => h.elim
 | _ :: _, [], _, _, h => h.elim
 | _ :: _, _ :: _, [], _, h => h.elim
def Holds (k : FuncId) (F : Func) : Prop := ∀ (H : Type) (enc : TypeId × Value → H) (W : World) (base : Nat) (args : Array Value) (ds : List (DataW H)) (p : List MemPlace),
 (∀ (j : Nat) t v, F.params[j]? = some t → args[j]? = some v → Value.okWide Tryz.prog W .any base t v) → DataW.TrodAll enc Tryz.prog W 0 (fun _ => true) true F.params.toList args.toList ds p →
 Calls Tryz.prog k args W (Ret W (Is (.bool true)))
theorem ql7 {k : FuncId} {F : Func} (h : Holds k F) {s : ChangeSpec} (hv : s.vars = [])
 (hts0 : (F.params.toList.all fun t => (Tryz.prog).readableRec t && decide (t < (Tryz.prog).types.size)) = true) (hres : F.resultTypes.toList = [4]) (hrs : F.resultTypes.size = 1)
 (hsp : ∀ (H : Type) (ds : List (DataW H)), ds.length = F.params.toList.length → s.fn H ds = { results := [.lit (.bool true)], args := ds })
 {H : Type} {enc : TypeId × Value → H} (W : World) (base : Nat) (args : Array Value) (ds gs : List (DataW H)) (before : List MemPlace)
 (hval : ∀ (j : Nat) t v, F.params[j]? = some t → args[j]? = some v → Value.okWide Tryz.prog W .any base t v)
 (hW : DataW.Whole enc Tryz.prog F.params.toList s.vars false W args.toList ds gs before) :
 Calls Tryz.prog k args W fun e W' => ∃ v, e = .returned v ∧ s.post enc Tryz.prog F false true false false W args v W' := by
 have hts : ∀ t ∈ F.params.toList, (Tryz.prog).readableRec t = true ∧ t < (Tryz.prog).types.size := fun t ht => by
  have := List.all_eq_true.1 hts0 t ht
  simpa using this
 have hW' := hW
 obtain ⟨p, q, hA, hV, rfl, hfz, hnd⟩ := hW
 rw [hv] at hV
 obtain ⟨rfl, rfl⟩ := trodVars_none hV
 refine (h H enc W base args ds p hval hA).mono ?_
 rintro e W' ⟨v, rfl, hvv, hb⟩
 have hvv : v = .bool true := hvv
 subst hvv
 have hlen := qkw hA
 have hspec := hsp H ds hlen
 refine ⟨_, rfl, ds, [], p ++ [], [], p, [], hW', ?_, ?_, ?_, ?_, fun h => by cases h⟩
 · rw [List.append_nil, hspec, hres, hrs]
   exact trodAll_cons_mk (shut_bool Tryz.underlying4 _) trodAll_mk0
 · rw [List.append_nil, hspec]
   exact qiE qtM hb hts (fun x hx => hW'.lt x (by simpa using hx)) hA
 · rw [List.append_nil, hspec, hv]; rfl
 · exact World.keptBut_mono (fun x hx => ⟨by simpa using hx, .inr (.inl (by simpa using hx))⟩) (Below.frame hb (fun x => x ∈ p))
theorem qpy {n : Int} (h : (Lit.int .i64 n).wf = true) : I64 n := by
 simp [Lit.wf, IntKind.min, IntKind.max, IntKind.signed, IntKind.bits] at h
 unfold I64
 omega
theorem qqt : (Tryz.prog).cellsOf 3 = 1 := by kernel_rfl
theorem qlT : (Tryz.prog).cellsOf 9 = 1 := by kernel_rfl
theorem qm7 : (Tryz.prog).cellsOf 32 = 1 := by kernel_rfl
theorem qje : (Tryz.prog).cellsOf 47 = 4 := by kernel_rfl
theorem qk2 : (Tryz.prog).cellsOf 45 = 3 := by kernel_rfl
section
variable {H : Type} {enc : TypeId × Value → H} {W : World} {base : Nat} {sp : Nat → Bool} {hd : Bool}
theorem qo7 : ∀ (fuel : Nat) (cs : List Value) (x : DataW H × List MemPlace), DataW.trod enc Tryz.prog W base sp hd fuel 47 cs = some x → ∃ t, CT W t cs := by
 intro fuel
 induction fuel using Nat.strongRecOn with
 | _ fuel IH =>
  intro cs x h
  obtain ⟨xs, n, rfl, rfl, hl, hlen, hf⟩ := DataW.trod_struct Tryz.underlying47 h
  rw [qje] at hl
  match xs, hlen, cs, hl with
  | [y0, y1, y2, y3], _, [c0, c1, c2, c3], _ =>
   have g0 := hf 0 _ rfl
   have g1 := hf 1 _ rfl
   have g2 := hf 2 _ rfl
   have g3 := hf 3 _ rfl
   simp [qqt, qlT, qm7] at g0 g1 g2 g3
   obtain ⟨k, e0, _, w0⟩ := DataW.trod_int Tryz.underlying3 g0
   obtain ⟨i, e1, _, w1⟩ := DataW.trod_int Tryz.underlying3 g1
   obtain ⟨s, e2, _, w2⟩ := DataW.trod_string Tryz.underlying9 g2
   obtain ⟨l, v, e3, h3⟩ := Lay.open_sl (L := layT) Tryz.underlying32 qje (fun m cs x hm h => IH m (by omega) cs x h) g3
   obtain ⟨A, c, zs, rfl, hc1, hc2, hr, hz⟩ := qsm.1 h3
   simp only [List.cons.injEq, and_true] at e0 e1 e2 e3
   subst e0 e1 e2 e3
   refine ⟨.mk k i s l, ?_⟩
   simp only [CT]
   exact ⟨A, c, zs, rfl, ⟨qpy w0, qpy w1, by unfold maxLen at w2; omega, hc1, hc2⟩, hr, hz⟩
variable {b0 : Nat} {r : Reach} {v : Value} {d : DataW H} {ps : List MemPlace}
end
end Go.Proofs.YtabbfihjeppbhaaGreat
namespace Go.Proofs.YtabbfihjeppbhaaGreat
set_option maxRecDepth 100000
open Go.RowKit
inductive D where
 | bool (b : Bool)
 | int (k : IntKind) (n : Int)
 | str (s : ByteArray)
 | lst (l : List D)
 | full (l : List D)
 | own (u : Value) (l : List D)
 | agg (fs : List D)
 | ptr (d : D)
 | ref (b off : Nat) (path : List Nat)
 | mref (b i s off : Nat) (path : List Nat)
 | arr (b s lo n : Nat)
 | vec (u : Value) (n : Nat)
 | clo (fn : Fn) (first cap : List D)
 | nilf
 | nilm
 | nilp
 | map (r : Nat)
 | ifc (t : TypeId) (d : D)
 | nili
 | tup (ds : List D)
 | undef
def RdP (p : Addr → Prop) (w : World) (A : Option Addr) (xs : List Value) : Prop := xs = [] ∨ ∃ b o, A = some ⟨b, o, none⟩ ∧ ∀ j u, xs[j]? = some u → p ⟨b, o + j, none⟩ ∧ w.cell? ⟨b, o + j, none⟩ = some u
mutual
def Rep (p : Addr → Prop) (w : World) : D → Value → Prop
 | .bool b, v => v = .bool b
 | .int k n, v => v = .int k n ∧ k.wrap n = n
 | .str s, v => v = .string s ∧ s.size ≤ 9223372036854775807
 | .lst l, v => ∃ A c xs, v = .slice A l.length c ∧ l.length ≤ c ∧ c ≤ 9223372036854775807 ∧ RdP p w A xs ∧ zo p w l xs ∧ ∀ u ∈ xs, u.oneCell' = true
 | .full l, v => ∃ A xs, v = .slice A l.length l.length ∧ l.length ≤ 9223372036854775807 ∧ RdP p w A xs ∧ zo p w l xs ∧ ∀ u ∈ xs, u.oneCell' = true
 | .own u l, v => v = u ∧ ∃ A c xs, u = .slice A l.length c ∧ l.length ≤ c ∧ c ≤ 9223372036854775807 ∧ RdP p w A xs ∧ zo p w l xs ∧ ∀ u ∈ xs, u.oneCell' = true
 | .agg fs, v => ∃ cs, v = .agg cs.toArray ∧ zo p w fs cs ∧ ∀ u ∈ cs, u.oneCell' = true
 | .ptr d, v => ∃ b o u, v = .pointer (some ⟨b, o, none⟩) ∧ RdP p w (some ⟨b, o, none⟩) u.cells.toList ∧ Rep p w d u ∧ ∀ x ∈ u.cells.toList, x.oneCell' = true
 | .ref b off _, v => v = .pointer (some ⟨b, off, none⟩)
 | .mref b i s off _, v => v = .pointer (some ⟨b, i * s + off, none⟩)
 | .arr b s lo n, v => ∃ A c, v = .slice A n c ∧ n ≤ c ∧ c ≤ 9223372036854775807 ∧ (n = 0 ∨ A = some ⟨b, lo * s, none⟩)
 | .vec u n, v => v = u ∧ ∃ A c, u = .slice A n c ∧ n ≤ c ∧ c ≤ 9223372036854775807
 | .clo fn f c, v => ∃ fs cs, v = .func fn fs.toArray cs.toArray ∧ zz p w f fs ∧ zz p w c cs
 | .nilf, v => v = .nilFunc
 | .nilm, v => v = .map none
 | .nilp, v => v = .pointer none
 | .map r, v => v = .map (some r)
 | .ifc t d, v => ∃ u, v = .iface t u ∧ Rep p w d u
 | .nili, v => v = .nilIface
 | .tup ds, v => ∃ vs, v = .tuple vs.toArray ∧ zz p w ds vs
 | .undef, v => v = Go.undef
def zo (p : Addr → Prop) (w : World) : List D → List Value → Prop
 | [], cs => cs = []
 | d :: ds, cs => ∃ v rest, cs = v.cells.toList ++ rest ∧ Rep p w d v ∧ zo p w ds rest
def zz (p : Addr → Prop) (w : World) : List D → List Value → Prop
 | [], vs => vs = []
 | d :: ds, vs => ∃ v rest, vs = v :: rest ∧ Rep p w d v ∧ zz p w ds rest
end
def zM (p : Addr → Prop) (w : World) (p' : Addr → Prop) (w' : World) : Prop := ∀ a, p a → p' a ∧ w'.cell? a = w.cell? a
theorem zM.refl (p : Addr → Prop) (w : World) : zM p w p w := fun _ h => ⟨h, rfl⟩
theorem zM.tr {p p' p'' : Addr → Prop} {w w' w'' : World} (h : zM p w p' w') (k : zM p' w' p'' w'') : zM p w p'' w'' := fun a ha => ⟨(k a (h a ha).1).1, (k a (h a ha).1).2.trans (h a ha).2⟩
theorem RdP.grow {p p' : Addr → Prop} {w w' : World} {A : Option Addr} {xs : List Value} (h : RdP p w A xs) (g : zM p w p' w') : RdP p' w' A xs := by
 rcases h with h | ⟨b, o, h1, h2⟩
 · exact .inl h
 · exact .inr ⟨b, o, h1, fun j u hu => ⟨(g _ (h2 j u hu).1).1, ((g _ (h2 j u hu).1).2).trans (h2 j u hu).2⟩⟩
mutual
theorem Rep.grow {p p' : Addr → Prop} {w w' : World} (g : zM p w p' w') : ∀ {d : D} {v : Value}, Rep p w d v → Rep p' w' d v
 | .bool _, _, h => by simpa only [Rep] using h
 | .int _ _, _, h => by simpa only [Rep] using h
 | .str _, _, h => by simpa only [Rep] using h
 | .lst l, _, h => by
  simp only [Rep] at h ⊢
  obtain ⟨A, c, xs, h1, h2, h3, h4, h5, h6⟩ := h
  exact ⟨A, c, xs, h1, h2, h3, h4.grow g, zo.grow g h5, h6⟩
 | .full l, _, h => by
  simp only [Rep] at h ⊢
  obtain ⟨A, xs, h1, h3, h4, h5, h6⟩ := h
  exact ⟨A, xs, h1, h3, h4.grow g, zo.grow g h5, h6⟩
 | .own u l, _, h => by
  simp only [Rep] at h ⊢
  obtain ⟨h0, A, c, xs, h1, h2, h3, h4, h5, h6⟩ := h
  exact ⟨h0, A, c, xs, h1, h2, h3, h4.grow g, zo.grow g h5, h6⟩
 | .agg fs, _, h => by
  simp only [Rep] at h ⊢
  obtain ⟨cs, h1, h2, h3⟩ := h
  exact ⟨cs, h1, zo.grow g h2, h3⟩
 | .ptr d, _, h => by
  simp only [Rep] at h ⊢
  obtain ⟨b, o, u, h1, h2, h3, h4⟩ := h
  exact ⟨b, o, u, h1, h2.grow g, Rep.grow g h3, h4⟩
 | .ref _ _ _, _, h => by simpa only [Rep] using h
 | .mref _ _ _ _ _, _, h => by simpa only [Rep] using h
 | .arr _ _ _ _, _, h => by simpa only [Rep] using h
 | .vec _ _, _, h => by simpa only [Rep] using h
 | .clo _ _ _, _, h => by
  simp only [Rep] at h ⊢
  obtain ⟨fs, cs, h1, h2, h3⟩ := h
  exact ⟨fs, cs, h1, zz.grow g h2, zz.grow g h3⟩
 | .nilf, _, h => by simpa only [Rep] using h
 | .nilm, _, h => by simpa only [Rep] using h
 | .nilp, _, h => by simpa only [Rep] using h
 | .map _, _, h => by simpa only [Rep] using h
 | .ifc _ _, _, h => by
  simp only [Rep] at h ⊢
  obtain ⟨u, h1, h2⟩ := h
  exact ⟨u, h1, Rep.grow g h2⟩
 | .nili, _, h => by simpa only [Rep] using h
 | .tup ds, _, h => by
  simp only [Rep] at h ⊢
  obtain ⟨vs, h1, h2⟩ := h
  exact ⟨vs, h1, zz.grow g h2⟩
 | .undef, _, h => by simpa only [Rep] using h
theorem zo.grow {p p' : Addr → Prop} {w w' : World} (g : zM p w p' w') : ∀ {ds : List D} {cs : List Value}, zo p w ds cs → zo p' w' ds cs
 | [], _, h => by simpa only [zo] using h
 | _ :: _, _, h => by
  simp only [zo] at h ⊢
  obtain ⟨v, rest, h1, h2, h3⟩ := h
  exact ⟨v, rest, h1, Rep.grow g h2, zo.grow g h3⟩
theorem zz.grow {p p' : Addr → Prop} {w w' : World} (g : zM p w p' w') : ∀ {ds : List D} {vs : List Value}, zz p w ds vs → zz p' w' ds vs
 | [], _, h => by simpa only [zz] using h
 | _ :: _, _, h => by
  simp only [zz] at h ⊢
  obtain ⟨v, rest, h1, h2, h3⟩ := h
  exact ⟨v, rest, h1, Rep.grow g h2, zz.grow g h3⟩
end
mutual
def sz : D → Nat
 | .agg fs => szs fs
 | _ => 1
def szs : List D → Nat
 | [] => 0
 | d :: ds => sz d + szs ds
end
mutual
theorem Rep.sz {p : Addr → Prop} {w : World} : ∀ {d : D} {v : Value}, Rep p w d v → v.cells.size = sz d
 | .agg fs, _, h => by
  simp only [Rep] at h
  obtain ⟨cs, rfl, h2, _⟩ := h
  simp only [Value.cells, YtabbfihjeppbhaaGreat.sz, List.size_toArray]
  exact zo.len h2
 | .bool _, _, h => by simp only [Rep] at h; subst h; rfl
 | .int _ _, _, h => by simp only [Rep] at h; rw [h.1]; rfl
 | .str _, _, h => by simp only [Rep] at h; rw [h.1]; rfl
 | .lst _, _, h => by simp only [Rep] at h; obtain ⟨A, c, xs, rfl, _⟩ := h; rfl
 | .full _, _, h => by simp only [Rep] at h; obtain ⟨A, xs, rfl, _⟩ := h; rfl
 | .own _ _, _, h => by simp only [Rep] at h; obtain ⟨rfl, A, c, xs, rfl, _⟩ := h; rfl
 | .ptr _, _, h => by simp only [Rep] at h; obtain ⟨b, o, u, rfl, _⟩ := h; rfl
 | .ref _ _ _, _, h => by simp only [Rep] at h; subst h; rfl
 | .mref _ _ _ _ _, _, h => by simp only [Rep] at h; subst h; rfl
 | .arr _ _ _ _, _, h => by simp only [Rep] at h; obtain ⟨A, c, rfl, _⟩ := h; rfl
 | .vec _ _, _, h => by simp only [Rep] at h; obtain ⟨rfl, A, c, rfl, _⟩ := h; rfl
 | .clo _ _ _, _, h => by simp only [Rep] at h; obtain ⟨fs, cs, rfl, _⟩ := h; rfl
 | .nilf, _, h => by simp only [Rep] at h; subst h; rfl
 | .nilm, _, h => by simp only [Rep] at h; subst h; rfl
 | .nilp, _, h => by simp only [Rep] at h; subst h; rfl
 | .map _, _, h => by simp only [Rep] at h; subst h; rfl
 | .ifc _ _, _, h => by simp only [Rep] at h; obtain ⟨u, rfl, _⟩ := h; rfl
 | .nili, _, h => by simp only [Rep] at h; subst h; rfl
 | .tup _, _, h => by simp only [Rep] at h; obtain ⟨vs, rfl, _⟩ := h; rfl
 | .undef, _, h => by simp only [Rep] at h; subst h; rfl
theorem zo.len {p : Addr → Prop} {w : World} : ∀ {ds : List D} {cs : List Value}, zo p w ds cs → cs.length = szs ds
 | [], _, h => by simp only [zo] at h; subst h; rfl
 | d :: ds, _, h => by
  simp only [zo] at h
  obtain ⟨v, rest, rfl, h2, h3⟩ := h
  rw [List.length_append, zo.len h3, szs, Array.length_toList, Rep.sz h2]
end
def Wk (d d' : D) : Prop := ∀ p w v, Rep p w d v → Rep p w d' v
theorem Wk.refl (d : D) : Wk d d := fun _ _ _ h => h
theorem Wk.own (u : Value) (l : List D) : Wk (.own u l) (.lst l) := fun p w v h => by
 simp only [Rep] at h ⊢
 obtain ⟨rfl, h⟩ := h
 exact h
theorem Wk.full (l : List D) : Wk (.full l) (.lst l) := fun p w v h => by
 simp only [Rep] at h ⊢
 obtain ⟨A, xs, h1, h3, h4⟩ := h
 exact ⟨A, _, xs, h1, Nat.le_refl _, h3, h4⟩
def D.plain : D → Bool
 | .tup _ | .undef => false
 | _ => true
theorem Rep.one {p : Addr → Prop} {w : World} {d : D} {v : Value} (h : Rep p w d v) (hp : d.plain = true) : ∀ u ∈ v.cells.toList, u.oneCell' = true := by
 cases d <;> simp only [Rep] at h
 case agg fs =>
  obtain ⟨cs, rfl, _, h3⟩ := h
  simpa [Value.cells] using h3
 case tup => cases hp
 case undef => cases hp
 case bool => subst h; simp [Value.cells, Value.oneCell']
 case int => rw [h.1]; simp [Value.cells, Value.oneCell']
 case str => rw [h.1]; simp [Value.cells, Value.oneCell']
 case lst => obtain ⟨A, c, xs, rfl, _⟩ := h; simp [Value.cells, Value.oneCell']
 case full => obtain ⟨A, xs, rfl, _⟩ := h; simp [Value.cells, Value.oneCell']
 case own => obtain ⟨rfl, A, c, xs, rfl, _⟩ := h; simp [Value.cells, Value.oneCell']
 case ptr => obtain ⟨b, o, u, rfl, _⟩ := h; simp [Value.cells, Value.oneCell']
 case ref => subst h; simp [Value.cells, Value.oneCell']
 case mref => subst h; simp [Value.cells, Value.oneCell']
 case arr => obtain ⟨A, c, rfl, _⟩ := h; simp [Value.cells, Value.oneCell']
 case vec => obtain ⟨rfl, A, c, rfl, _⟩ := h; simp [Value.cells, Value.oneCell']
 case clo => obtain ⟨fs, cs, rfl, _⟩ := h; simp [Value.cells, Value.oneCell']
 case nilf => subst h; simp [Value.cells, Value.oneCell']
 case nilm => subst h; simp [Value.cells, Value.oneCell']
 case nilp => subst h; simp [Value.cells, Value.oneCell']
 case map => subst h; simp [Value.cells, Value.oneCell']
 case ifc => obtain ⟨u, rfl, _⟩ := h; simp [Value.cells, Value.oneCell']
 case nili => subst h; simp [Value.cells, Value.oneCell']
def D.isAgg : D → Bool
 | .agg _ => true
 | _ => false
def yg (d : D) (cs : List Value) : Value := match d with
 | .agg _ => .agg cs.toArray
 | _ => cs.headD Go.undef
theorem Rep.back {p : Addr → Prop} {w : World} {d : D} {v : Value} (h : Rep p w d v) : v = yg d v.cells.toList := by
 cases d <;> simp only [Rep] at h
 case agg fs =>
  obtain ⟨cs, rfl, _, h3⟩ := h
  simp [Value.cells, yg]
 case tup => obtain ⟨vs, rfl, _⟩ := h; simp [Value.cells, yg]
 case undef => subst h; simp [Value.cells, yg, Go.undef]
 case bool => subst h; simp [Value.cells, yg]
 case int => rw [h.1]; simp [Value.cells, yg]
 case str => rw [h.1]; simp [Value.cells, yg]
 case lst => obtain ⟨A, c, xs, rfl, _⟩ := h; simp [Value.cells, yg]
 case full => obtain ⟨A, xs, rfl, _⟩ := h; simp [Value.cells, yg]
 case own => obtain ⟨rfl, A, c, xs, rfl, _⟩ := h; simp [Value.cells, yg]
 case ptr => obtain ⟨b, o, u, rfl, _⟩ := h; simp [Value.cells, yg]
 case ref => subst h; simp [Value.cells, yg]
 case mref => subst h; simp [Value.cells, yg]
 case arr => obtain ⟨A, c, rfl, _⟩ := h; simp [Value.cells, yg]
 case vec => obtain ⟨rfl, A, c, rfl, _⟩ := h; simp [Value.cells, yg]
 case clo => obtain ⟨fs, cs, rfl, _⟩ := h; simp [Value.cells, yg]
 case nilf => subst h; simp [Value.cells, yg]
 case nilm => subst h; simp [Value.cells, yg]
 case nilp => subst h; simp [Value.cells, yg]
 case map => subst h; simp [Value.cells, yg]
 case ifc => obtain ⟨u, rfl, _⟩ := h; simp [Value.cells, yg]
 case nili => subst h; simp [Value.cells, yg]
theorem zo.app {p : Addr → Prop} {w : World} : ∀ {l m : List D} {xs ys : List Value}, zo p w l xs → zo p w m ys → zo p w (l ++ m) (xs ++ ys)
 | [], _, _, _, h, k => by simp only [zo] at h; subst h; simpa using k
 | d :: l, m, _, ys, h, k => by
  simp only [zo] at h
  obtain ⟨v, rest, rfl, h2, h3⟩ := h
  rw [List.cons_append, List.append_assoc]
  simp only [zo]
  exact ⟨v, rest ++ ys, rfl, h2, zo.app h3 k⟩
theorem zo.nil (p : Addr → Prop) (w : World) : zo p w [] [] := by simp only [zo]
theorem zo.cons {p : Addr → Prop} {w : World} {d : D} {l : List D} {v : Value} {ys : List Value} (h : Rep p w d v) (k : zo p w l ys) : zo p w (d :: l) (v.cells.toList ++ ys) := by
 simp only [zo]; exact ⟨v, ys, rfl, h, k⟩
theorem zo.single {p : Addr → Prop} {w : World} {d : D} {v : Value} (h : Rep p w d v) : zo p w [d] v.cells.toList := by simpa using zo.cons h (zo.nil p w)
theorem zz.cons {p : Addr → Prop} {w : World} {d : D} {l : List D} {v : Value} {ys : List Value} (h : Rep p w d v) (k : zz p w l ys) : zz p w (d :: l) (v :: ys) := by
 simp only [zz]; exact ⟨v, ys, rfl, h, k⟩
theorem zz.nil (p : Addr → Prop) (w : World) : zz p w [] [] := by simp only [zz]
theorem zz.app {p : Addr → Prop} {w : World} : ∀ {l m : List D} {xs ys : List Value}, zz p w l xs → zz p w m ys → zz p w (l ++ m) (xs ++ ys)
 | [], _, _, _, h, k => by simp only [zz] at h; subst h; simpa using k
 | d :: l, m, _, ys, h, k => by
  simp only [zz] at h
  obtain ⟨v, rest, rfl, h2, h3⟩ := h
  exact zz.cons h2 (zz.app h3 k)
theorem zz.at_ {p : Addr → Prop} {w : World} : ∀ {l : List D} {vs : List Value} {i : Nat} {d : D}, zz p w l vs → l[i]? = some d → ∃ v, vs[i]? = some v ∧ Rep p w d v
 | [], _, _, _, _, hi => by simp at hi
 | d :: l, _, 0, e, h, hi => by
  simp only [zz] at h
  obtain ⟨v, rest, rfl, h2, h3⟩ := h
  simp at hi; subst hi
  exact ⟨v, rfl, h2⟩
 | d :: l, _, i + 1, e, h, hi => by
  simp only [zz] at h
  obtain ⟨v, rest, rfl, h2, h3⟩ := h
  simp at hi
  obtain ⟨u, h4, h5⟩ := zz.at_ h3 hi
  exact ⟨u, by simpa using h4, h5⟩
theorem zo.at_ {p : Addr → Prop} {w : World} : ∀ {l : List D} {xs : List Value} {i : Nat} {d : D}, zo p w l xs → l[i]? = some d → ∃ v, Rep p w d v ∧ xs = xs.take (szs (l.take i)) ++ v.cells.toList ++ xs.drop (szs (l.take i) + sz d) ∧ (xs.take (szs (l.take i))).length = szs (l.take i)
 | [], _, _, _, _, hi => by simp at hi
 | d :: l, _, 0, e, h, hi => by
  simp only [zo] at h
  obtain ⟨v, rest, rfl, h2, h3⟩ := h
  simp at hi; subst hi
  refine ⟨v, h2, ?_, by simp [szs]⟩
  have hs := Rep.sz h2
  simp only [List.take_zero, szs, Nat.zero_add, List.nil_append]
  rw [← hs, ← Array.length_toList, List.drop_left]
 | d :: l, _, i + 1, e, h, hi => by
  simp only [zo] at h
  obtain ⟨v, rest, rfl, h2, h3⟩ := h
  simp at hi
  obtain ⟨u, h4, h5, h6⟩ := zo.at_ h3 hi
  have hs := Rep.sz h2
  have hs' : v.cells.toList.length = sz d := by simpa using hs
  refine ⟨u, h4, ?_, ?_⟩
  · simp only [List.take_succ_cons, szs]
    have e1 : (v.cells.toList ++ rest).take (sz d + szs (l.take i)) = v.cells.toList ++ rest.take (szs (l.take i)) := by rw [← hs', List.take_length_add_append]
    have e2 : (v.cells.toList ++ rest).drop (sz d + szs (l.take i) + sz e) = rest.drop (szs (l.take i) + sz e) := by rw [← hs', Nat.add_assoc, List.drop_length_add_append]
    rw [e1, e2, List.append_assoc, List.append_assoc]
    rw [List.append_assoc] at h5
    rw [← h5]
  · simp only [List.take_succ_cons, szs]
    rw [← hs', List.take_length_add_append, List.length_append, h6]
theorem zo.at_cell {p : Addr → Prop} {w : World} {l : List D} {xs : List Value} {i : Nat} {d : D} (h : zo p w l xs) (hi : l[i]? = some d) : ∃ v, Rep p w d v ∧ ∀ j u, v.cells.toList[j]? = some u → xs[szs (l.take i) + j]? = some u := by
 obtain ⟨v, h1, h2, h3⟩ := h.at_ hi
 refine ⟨v, h1, fun j u hu => ?_⟩
 rw [h2, List.append_assoc, List.getElem?_append_right (by omega), h3, Nat.add_sub_cancel_left, List.getElem?_append_left (List.getElem?_eq_some_iff.1 hu).1]
 exact hu
def zI (s : Nat) (l : List D) : Prop := ∀ d ∈ l, sz d = s
theorem zI.szs {s : Nat} : ∀ {l : List D}, zI s l → szs l = l.length * s
 | [], _ => by simp [YtabbfihjeppbhaaGreat.szs]
 | d :: l, h => by
  have h1 := h d (List.mem_cons_self ..)
  have h2 := zI.szs (l := l) fun e he => h e (List.mem_cons_of_mem _ he)
  simp only [YtabbfihjeppbhaaGreat.szs, List.length_cons, h1, h2, Nat.add_mul, Nat.one_mul]
  omega
theorem zI.take {s : Nat} {l : List D} (h : zI s l) (i : Nat) : zI s (l.take i) := fun d hd => h d (List.mem_of_mem_take hd)
theorem zI.drop {s : Nat} {l : List D} (h : zI s l) (i : Nat) : zI s (l.drop i) := fun d hd => h d (List.mem_of_mem_drop hd)
theorem zI.app {s : Nat} {l m : List D} (h : zI s l) (k : zI s m) : zI s (l ++ m) := fun d hd => (List.mem_append.1 hd).elim (h d) (k d)
theorem zI.nil (s : Nat) : zI s [] := fun _ h => by cases h
theorem zI.cons {s : Nat} {d : D} {l : List D} (h : sz d = s) (k : zI s l) : zI s (d :: l) := fun e he => (List.mem_cons.1 he).elim (fun h' => h' ▸ h) (k e)
theorem zo.take {p : Addr → Prop} {w : World} : ∀ {l : List D} {xs : List Value} (i : Nat), zo p w l xs → zo p w (l.take i) (xs.take (szs (l.take i)))
 | l, xs, 0, _ => by simpa [szs] using zo.nil p w
 | [], _, i + 1, h => by simp only [zo] at h; subst h; simpa using zo.nil p w
 | d :: l, _, i + 1, h => by
  simp only [zo] at h
  obtain ⟨v, rest, rfl, h2, h3⟩ := h
  have hs' : v.cells.toList.length = sz d := by simpa using Rep.sz h2
  simp only [List.take_succ_cons, szs]
  rw [← hs', List.take_length_add_append]
  exact zo.cons h2 (zo.take i h3)
theorem zo.drop {p : Addr → Prop} {w : World} : ∀ {l : List D} {xs : List Value} (i : Nat), zo p w l xs → zo p w (l.drop i) (xs.drop (szs (l.take i)))
 | l, xs, 0, h => by simpa [szs] using h
 | [], _, i + 1, h => by simp only [zo] at h; subst h; simpa using zo.nil p w
 | d :: l, _, i + 1, h => by
  simp only [zo] at h
  obtain ⟨v, rest, rfl, h2, h3⟩ := h
  have hs' : v.cells.toList.length = sz d := by simpa using Rep.sz h2
  simp only [List.take_succ_cons, List.drop_succ_cons, szs]
  rw [← hs', List.drop_length_add_append]
  exact zo.drop i h3
abbrev Env := List (Nat × D)
def lk : Env → Nat → Option D
 | [], _ => none
 | (k, d) :: r, s => bif Nat.beq k s then some d else lk r s
inductive Ob where
 | cell (b : Nat) (d : D)
 | row (u : Value) (n : Nat) (e : TypeId) (s : Nat)
 | arr (b : Nat) (l : List D) (e : TypeId) (s : Nat)
 | vec (u : Value) (l : List D) (e : TypeId) (s : Nat)
 | map (r : Nat) (kv : List (D × D))
 | mapE (r : Nat) (kv : List (D × D)) (es : Array MapEntry) (clock : Nat)
 | iter (b r since : Nat) (seen : Array Nat) (last : Nat)
 | aux (b : Nat) (o : Obj)
 | loop (l : Nat) (env : Env) (L : Loop)
abbrev St := List Ob
def Ob.blk : Ob → Option Nat
 | .cell b _ => some b
 | .row u _ _ _ => u.ownBlock
 | .arr _ [] _ _ => none
 | .arr b (_ :: _) _ _ => some b
 | .vec u _ _ _ => u.ownBlock
 | .map r _ => some r
 | .mapE r _ _ _ => some r
 | .iter b _ _ _ _ => some b
 | .aux b _ => some b
 | .loop l _ _ => some l
def yN (σ : St) : List Nat := σ.filterMap Ob.blk
def z8 (p : Addr → Prop) (w : World) : List (D × D) → List MapEntry → Prop
 | [], es => es = []
 | (k, d) :: kv, es => ∃ e rest, es = e :: rest ∧ Rep p w k e.key ∧ Rep p w d e.val ∧ z8 p w kv rest
theorem z8.grow {p p' : Addr → Prop} {w w' : World} (g : zM p w p' w') : ∀ {kv : List (D × D)} {es : List MapEntry}, z8 p w kv es → z8 p' w' kv es
 | [], _, h => h
 | _ :: _, _, ⟨e, rest, h1, h2, h3, h4⟩ => ⟨e, rest, h1, h2.grow g, h3.grow g, z8.grow g h4⟩
def zbf (p : Addr → Prop) (w : World) : Ob → Prop
 | .cell b d => ∃ v ty, Rep p w d v ∧ d.plain = true ∧ w.heap[b]? = some (.cells v.cells ty (0, 0)) ∧ ∀ a, p a → a.block ≠ b
 | .row u n e s => (∃ xs, w.ownsRow 0 e s u n xs) ∧ ∀ g, u.ownBlock = some g → ∀ a, p a → a.block = g → a.off < n * s
 | .arr b l e s => zI s l ∧ l.length ≤ 9223372036854775807 ∧ 0 < s ∧ (l = [] ∨ ∃ xs junk, zo p w l xs ∧ (∀ u ∈ xs, u.oneCell' = true) ∧ w.heap[b]? = some (.cells (xs ++ junk).toArray e (0, 0)) ∧ ∀ a, p a → a.block ≠ b)
 | .vec u l e s => zI s l ∧ 0 < s ∧ (∃ xs, w.ownsRow 0 e s u l.length xs ∧ zo p w l xs ∧ ∀ x ∈ xs, x.oneCell' = true) ∧ ∀ g, u.ownBlock = some g → ∀ a, p a → a.block ≠ g
 | .map r kv => ∃ es clock, w.heap[r]? = some (.map es clock) ∧ z8 p w kv es.toList ∧ kv.length ≤ 9223372036854775807 ∧ (es.toList.map (·.born)).Nodup ∧ ∀ e ∈ es.toList, e.born < clock
 | .mapE r kv es clock => w.heap[r]? = some (.map es clock) ∧ z8 p w kv es.toList ∧ kv.length ≤ 9223372036854775807 ∧ (es.toList.map (·.born)).Nodup ∧ ∀ e ∈ es.toList, e.born < clock
 | .iter b r since seen last => w.heap[b]? = some (.mapIter (some r) since seen last)
 | .aux b o => w.heap[b]? = some o
 | .loop l env L => w.heap[l]? = some (.loop L) ∧ ∀ t d, lk env t = some d → Rep p w d (L.tmps.getD t Go.undef)
structure Ctx where
 w0 : World
 p0 : Addr → Prop
 F0 : Nat → Prop
 X : D → St → Prop := fun _ _ => False
structure Inv (K : Ctx) (p : Addr → Prop) (σ : St) (w : World) : Prop where
 ok : ∀ o ∈ σ, zbf p w o
 nd : (yN σ).Nodup
 mine : ∀ b ∈ yN σ, K.w0.heap.size ≤ b ∨ K.F0 b
 pub : ∀ a, p a → ∃ v, w.cell? a = some v
 gr : zM K.p0 K.w0 p w
 neu : ∀ a, p a → K.p0 a ∨ K.w0.heap.size ≤ a.block ∨ K.F0 a.block
 os : w.os = K.w0.os
 tape : w.tape = K.w0.tape
 output : w.output = K.w0.output
 size : K.w0.heap.size ≤ w.heap.size
 block : ∀ b, b < K.w0.heap.size → ¬ K.F0 b → w.heap[b]? = K.w0.heap[b]?
theorem qis {w : World} {a : Addr} {v : Value} (h : w.cell? a = some v) : a.block < w.heap.size := World.block_lt_of_cell? w a h
theorem qfz {w w' : World} {a : Addr} (h : w'.heap[a.block]? = w.heap[a.block]?) : w'.cell? a = w.cell? a := World.cell?_of_block h
theorem zbf.lt {p : Addr → Prop} {w : World} {o : Ob} (h : zbf p w o) {b : Nat} (hb : o.blk = some b) : b < w.heap.size := by
 cases o with
 | cell b' d =>
  obtain ⟨v, ty, _, _, h3, _⟩ := h
  simp only [Ob.blk, Option.some.injEq] at hb
  subst hb
  exact (Array.getElem?_eq_some_iff.1 h3).1
 | row u n e s =>
  obtain ⟨⟨xs, h1⟩, _⟩ := h
  exact (h1.lt b hb).2
 | arr b' l e s =>
  obtain ⟨_, _, _, h⟩ := h
  cases l with
  | nil => simp [Ob.blk] at hb
  | cons x l =>
   obtain ⟨xs, junk, _, _, h3, _⟩ := h.resolve_left (by simp)
   simp only [Ob.blk, Option.some.injEq] at hb
   subst hb
   exact (Array.getElem?_eq_some_iff.1 h3).1
 | vec u l e s =>
  obtain ⟨_, _, ⟨xs, h1, _⟩, _⟩ := h
  exact (h1.lt b hb).2
 | map r kv =>
  obtain ⟨es, cl, h3, _⟩ := h
  simp only [Ob.blk, Option.some.injEq] at hb
  subst hb
  exact (Array.getElem?_eq_some_iff.1 h3).1
 | mapE r kv es cl =>
  obtain ⟨h3, _⟩ := h
  simp only [Ob.blk, Option.some.injEq] at hb
  subst hb
  exact (Array.getElem?_eq_some_iff.1 h3).1
 | iter b' r s seen l =>
  simp only [Ob.blk, Option.some.injEq] at hb
  subst hb
  exact (Array.getElem?_eq_some_iff.1 (show w.heap[b']? = some _ from h)).1
 | aux b' o =>
  simp only [Ob.blk, Option.some.injEq] at hb
  subst hb
  exact (Array.getElem?_eq_some_iff.1 (show w.heap[b']? = some _ from h)).1
 | loop b' env L =>
  simp only [Ob.blk, Option.some.injEq] at hb
  subst hb
  exact (Array.getElem?_eq_some_iff.1 (show w.heap[b']? = some _ from h.1)).1
theorem zbf.keep {p p' : Addr → Prop} {w w' : World} {o : Ob} (h : zbf p w o) (g : zM p w p' w') (hh : ∀ b, o.blk = some b → w'.heap[b]? = w.heap[b]?) (hp : ∀ a b, p' a → o.blk = some b → a.block = b → p a) : zbf p' w' o := by
 cases o with
 | cell b d =>
  obtain ⟨v, ty, h1, h2, h3, h4⟩ := h
  exact ⟨v, ty, h1.grow g, h2, (hh b rfl).trans h3, fun a ha hb => h4 a (hp a b ha rfl hb) hb⟩
 | row u n e s =>
  obtain ⟨⟨xs, h1, h2⟩, h3⟩ := h
  refine ⟨⟨xs, h1, ?_⟩, fun g' hg a ha hb => h3 g' hg a (hp a g' ha hg hb) hb⟩
  rcases h2 with h2 | ⟨g', cap, cur, rfl, h4, h5, h6⟩
  · exact .inl h2
  · exact .inr ⟨g', cap, cur, rfl, h4, (hh g' rfl).trans h5, h6⟩
 | arr b l e s =>
  obtain ⟨h1, h2, h0, h⟩ := h
  refine ⟨h1, h2, h0, ?_⟩
  cases l with
  | nil => exact .inl rfl
  | cons x l =>
   obtain ⟨xs, junk, h3, h4, h5, h6⟩ := h.resolve_left (by simp)
   exact .inr ⟨xs, junk, h3.grow g, h4, (hh b rfl).trans h5, fun a ha hb => h6 a (hp a b ha rfl hb) hb⟩
 | vec u l e s =>
  obtain ⟨h1, h2, ⟨xs, ⟨h3, h4⟩, h5, h6⟩, h7⟩ := h
  refine ⟨h1, h2, ⟨xs, ⟨h3, ?_⟩, h5.grow g, h6⟩, fun g' hg a ha hb => h7 g' hg a (hp a g' ha hg hb) hb⟩
  rcases h4 with h4 | ⟨g', cap, cur, rfl, k1, k2, k3⟩
  · exact .inl h4
  · exact .inr ⟨g', cap, cur, rfl, k1, (hh g' rfl).trans k2, k3⟩
 | map r kv =>
  obtain ⟨es, cl, h3, h4, h5⟩ := h
  exact ⟨es, cl, (hh r rfl).trans h3, h4.grow g, h5⟩
 | mapE r kv es cl =>
  obtain ⟨h3, h4, h5⟩ := h
  exact ⟨(hh r rfl).trans h3, h4.grow g, h5⟩
 | iter b r s seen l => exact (hh b rfl).trans h
 | aux b o => exact (hh b rfl).trans h
 | loop b env L => exact ⟨(hh b rfl).trans h.1, fun t d ht => (h.2 t d ht).grow g⟩
theorem qeB {σ : St} {b : Nat} : b ∈ yN σ ↔ ∃ o ∈ σ, o.blk = some b := by simp [yN, List.mem_filterMap]
theorem qfP (σ τ : St) : yN (σ ++ τ) = yN σ ++ yN τ := by simp [yN]
theorem qlY {σ τ : St} (h : σ.Perm τ) : (yN σ).Perm (yN τ) := h.filterMap _
theorem Inv.lt {K : Ctx} {p : Addr → Prop} {σ : St} {w : World} (h : Inv K p σ w) {b : Nat} (hb : b ∈ yN σ) : b < w.heap.size := by
 obtain ⟨o, ho, hb⟩ := qeB.1 hb
 exact (h.ok o ho).lt hb
theorem Inv.perm {K : Ctx} {p : Addr → Prop} {σ τ : St} {w : World} (h : Inv K p σ w) (hp : σ.Perm τ) : Inv K p τ w :=
 ⟨fun o ho => h.ok o (hp.mem_iff.2 ho), (qlY hp).nodup_iff.1 h.nd, fun b hb => h.mine b ((qlY hp).mem_iff.2 hb), h.pub, h.gr, h.neu, h.os, h.tape, h.output, h.size, h.block⟩
theorem Inv.less {K : Ctx} {p : Addr → Prop} {σ τ : St} {w : World} (h : Inv K p (σ ++ τ) w) : Inv K p σ w := by
 have hn := h.nd
 rw [qfP] at hn
 exact ⟨fun o ho => h.ok o (List.mem_append_left _ ho), (List.nodup_append.1 hn).1, fun b hb => h.mine b (by rw [qfP]; exact List.mem_append_left _ hb), h.pub, h.gr, h.neu, h.os, h.tape, h.output, h.size, h.block⟩
def ctx (w : World) (p : Addr → Prop) (σ : St) : Ctx := { w0 := w, p0 := p, F0 := fun b => b ∈ yN σ }
theorem Inv.enter {K : Ctx} {p : Addr → Prop} {σ τ : St} {w : World} (h : Inv K p (σ ++ τ) w) : Inv (ctx w p σ) p σ w :=
 let h' := h.less
 ⟨h'.ok, h'.nd, fun _ hb => .inr hb, h.pub, zM.refl p w, fun _ ha => .inl ha, rfl, rfl, rfl, Nat.le_refl _, fun _ _ _ => rfl⟩
theorem Inv.leave {K : Ctx} {p p' : Addr → Prop} {σ σ' τ : St} {w w' : World} (h : Inv K p (σ ++ τ) w) (h' : Inv (ctx w p σ) p' σ' w') : Inv K p' (σ' ++ τ) w' := by
 have hn := h.nd
 rw [qfP] at hn
 obtain ⟨hn1, hn2, hn3⟩ := List.nodup_append.1 hn
 have ht : ∀ o ∈ τ, ∀ b, o.blk = some b → b < w.heap.size ∧ b ∉ yN σ := fun o ho b hb => ⟨(h.ok o (List.mem_append_right _ ho)).lt hb, fun hm => hn3 b hm b (qeB.2 ⟨o, ho, hb⟩) rfl⟩
 refine ⟨fun o ho => ?_, ?_, fun b hb => ?_, h'.pub, h.gr.tr h'.gr, fun a ha => ?_, h'.os.trans h.os, h'.tape.trans h.tape, h'.output.trans h.output, Nat.le_trans h.size h'.size, fun b hb hF => ?_⟩
 · rcases List.mem_append.1 ho with ho | ho
   · exact h'.ok o ho
   · refine (h.ok o (List.mem_append_right _ ho)).keep h'.gr (fun b hb => h'.block b (ht o ho b hb).1 (ht o ho b hb).2) fun a b ha hb hab => ?_
     rcases h'.neu a ha with h1 | h1 | h1
     · exact h1
     · have := (ht o ho b hb).1
       simp only [ctx] at h1
       omega
     · exact absurd (hab ▸ h1) (ht o ho b hb).2
 · rw [qfP]
   refine List.nodup_append.2 ⟨h'.nd, hn2, fun a ha b hb hab => ?_⟩
   subst hab
   obtain ⟨o, ho, hb⟩ := qeB.1 hb
   rcases h'.mine a ha with h1 | h1
   · have := (ht o ho a hb).1
     simp only [ctx] at h1
     omega
   · exact (ht o ho a hb).2 h1
 · rw [qfP] at hb
   rcases List.mem_append.1 hb with hb | hb
   · rcases h'.mine b hb with h1 | h1
     · exact .inl (Nat.le_trans h.size h1)
     · exact h.mine b (by rw [qfP]; exact List.mem_append_left _ h1)
   · exact h.mine b (by rw [qfP]; exact List.mem_append_right _ hb)
 · rcases h'.neu a ha with h1 | h1 | h1
   · exact h.neu a h1
   · exact .inr (.inl (Nat.le_trans h.size h1))
   · exact .inr (h.mine _ (by rw [qfP]; exact List.mem_append_left _ h1))
 · refine (h'.block b (Nat.lt_of_lt_of_le hb h.size) fun hm => ?_).trans (h.block b hb hF)
   rcases h.mine b (by rw [qfP]; exact List.mem_append_left _ hm) with h1 | h1
   · omega
   · exact hF h1
def Left (K : Ctx) (R : D → St → Prop) (e : Ending) (w : World) : Prop := (∃ v d σ p, e = .returned v ∧ R d σ ∧ Rep p w d v ∧ Inv K p σ w) ∨ ∃ v d σ p, e = .panicked [{ v, recovered := false }] ∧ K.X d σ ∧ Rep p w d v ∧ Inv K p σ w
def Spec (P : Program) (f : FuncId) (ds : List D) (σ : St) (R : D → St → Prop) : Prop :=
 ∀ (w : World) (p : Addr → Prop) (vs : List Value), Inv (ctx w p σ) p σ w → zz p w ds vs → Calls P f vs.toArray w (Left (ctx w p σ) R)
def zi (P : Program) (f : FuncId) (ds : List D) (d : D) : Prop := Spec P f ds [] fun d' _ => d' = d
/-! ### small steps of the state -/
section
variable {K : Ctx} {p : Addr → Prop} {σ : St} {w : World}
theorem qeQ (p : Addr → Prop) (w : World) : zM p w p w.drew := fun _ ha => ⟨ha, rfl⟩
theorem Inv.drew (h : Inv K p σ w) : Inv K p σ w.drew := ⟨fun o ho => (h.ok o ho).keep (qeQ p w) (fun _ _ => rfl) fun _ _ ha _ _ => ha, h.nd, h.mine, h.pub, h.gr.tr (qeQ p w), h.neu, h.os, h.tape, h.output, h.size, h.block⟩
theorem qdn (hp : ∀ a, p a → ∃ v, w.cell? a = some v) (o : Obj) : zM p w p (w.alloc o) := fun a ha => ⟨ha, by
 obtain ⟨v, hv⟩ := hp a ha
 exact qfz (Below.heap_alloc w o _ (qis hv))⟩
theorem Inv.alloc (h : Inv K p σ w) (o : Obj) : Inv K p σ (w.alloc o) := by
 have g := qdn h.pub o
 refine ⟨fun o' ho => ?_, h.nd, h.mine, fun a ha => ?_, h.gr.tr g, h.neu, h.os, h.tape, h.output, Nat.le_trans h.size (by simp), fun b hb hF => (Below.heap_alloc w o b (Nat.lt_of_lt_of_le hb h.size)).trans (h.block b hb hF)⟩
 · exact (h.ok o' ho).keep g (fun b hb => Below.heap_alloc w o b ((h.ok o' ho).lt hb)) fun a _ ha _ _ => ha
 · obtain ⟨v, hv⟩ := h.pub a ha
   exact ⟨v, ((g a ha).2).trans hv⟩
theorem Inv.give (h : Inv K p σ w) (q : Addr → Prop) (hq : ∀ a, q a → (∃ v, w.cell? a = some v) ∧ (K.w0.heap.size ≤ a.block ∨ K.F0 a.block) ∧ ∀ o ∈ σ, ∀ b, o.blk = some b → a.block = b → p a) : Inv K (fun a => p a ∨ q a) σ w := by
 have g : zM p w (fun a => p a ∨ q a) w := fun a ha => ⟨.inl ha, rfl⟩
 refine ⟨fun o ho => ?_, h.nd, h.mine, fun a ha => ?_, h.gr.tr g, fun a ha => ?_, h.os, h.tape, h.output, h.size, h.block⟩
 · exact (h.ok o ho).keep g (fun _ _ => rfl) fun a b ha hb hab => ha.elim id fun h' => (hq a h').2.2 o ho b hb hab
 · exact ha.elim (h.pub a) fun h' => (hq a h').1
 · exact ha.elim (h.neu a) fun h' => .inr (hq a h').2.1
theorem qgS (p q : Addr → Prop) (w : World) : zM p w (fun a => p a ∨ q a) w := fun a ha => ⟨.inl ha, rfl⟩
theorem Inv.more (h : Inv K p σ w) {o : Ob} (ho : zbf p w o) (hb : ∀ b, o.blk = some b → (K.w0.heap.size ≤ b ∨ K.F0 b) ∧ b ∉ yN σ) : Inv K p (o :: σ) w := by
 refine ⟨fun o' ho' => (List.mem_cons.1 ho').elim (fun e => e ▸ ho) (h.ok o'), ?_, fun b hb' => ?_, h.pub, h.gr, h.neu, h.os, h.tape, h.output, h.size, h.block⟩
 · cases hx : o.blk with
   | none => simpa [yN, hx] using h.nd
   | some b =>
    have := (hb b hx).2
    simp only [yN] at this ⊢
    simp only [List.filterMap_cons, hx, List.nodup_cons]
    exact ⟨this, h.nd⟩
 · obtain ⟨o', ho', hx⟩ := qeB.1 hb'
   rcases List.mem_cons.1 ho' with rfl | ho'
   · exact (hb b hx).1
   · exact h.mine b (qeB.2 ⟨o', ho', hx⟩)
theorem Inv.tail {o : Ob} (h : Inv K p (o :: σ) w) : Inv K p σ w := (h.perm (List.perm_append_comm (l₁ := [o]) (l₂ := σ))).less
theorem Inv.write {o o' : Ob} {w' : World} {p' : Addr → Prop} {b : Nat} (h : Inv K p (o :: σ) w) (hb : o.blk = some b) (hb' : o'.blk = some b) (g : zM p w p' w') (hnew : ∀ a, p' a → p a ∨ a.block = b) (ho : zbf p' w' o') (hpub : ∀ a, p' a → ∃ v, w'.cell? a = some v)
 (hos : w'.os = w.os) (ht : w'.tape = w.tape) (hou : w'.output = w.output) (hsz : w'.heap.size = w.heap.size) (hbl : ∀ k, k ≠ b → w'.heap[k]? = w.heap[k]?) : Inv K p' (o' :: σ) w' := by
 have hn := h.nd
 have hm := h.mine b (qeB.2 ⟨o, List.mem_cons_self .., hb⟩)
 have hne : b ∉ yN σ := by
  simp only [yN, List.filterMap_cons, hb, List.nodup_cons] at hn
  exact hn.1
 have key : ∀ o'' ∈ σ, ∀ k, o''.blk = some k → k ≠ b := fun o'' ho'' k hk e => hne (qeB.2 ⟨o'', ho'', e ▸ hk⟩)
 refine ⟨fun o'' ho'' => ?_, ?_, fun k hk => ?_, hpub, h.gr.tr g, fun a ha => ?_, hos.trans h.os, ht.trans h.tape, hou.trans h.output, hsz ▸ h.size, fun k hk hF => ?_⟩
 · rcases List.mem_cons.1 ho'' with rfl | ho''
   · exact ho
   · exact (h.tail.ok o'' ho'').keep g (fun k hk => hbl k (key o'' ho'' k hk)) fun a k ha hk hak => (hnew a ha).resolve_right fun e => key o'' ho'' k hk (hak ▸ e)
 · simp only [yN, List.filterMap_cons, hb, hb', List.nodup_cons] at hn ⊢
   exact hn
 · obtain ⟨o'', ho'', hx⟩ := qeB.1 hk
   rcases List.mem_cons.1 ho'' with rfl | ho''
   · rw [hb'] at hx; injection hx with hx; exact hx ▸ hm
   · exact h.mine k (qeB.2 ⟨o'', List.mem_cons_of_mem _ ho'', hx⟩)
 · rcases hnew a ha with h1 | h1
   · exact h.neu a h1
   · rw [h1]; exact .inr hm
 · refine (hbl k fun e => ?_).trans (h.block k hk hF)
   subst e
   rcases hm with h1 | h1
   · omega
   · exact hF h1
end
def zau : Value → Option D
 | .bool b => some (.bool b)
 | .int k n => some (.int k n)
 | .string s => some (.str s)
 | .slice none 0 0 => some (.full [])
 | .nilFunc => some .nilf
 | .map none => some .nilm
 | .pointer none => some .nilp
 | .nilIface => some .nili
 | _ => none
def ev (env : Env) : Operand → Option D
 | .tmp t => lk env t
 | .const v => zau v
 | .func f => some (.clo (.func f) [] [])
 | .global _ => none
def zbj : Value → Bool
 | .int k n => k.wrap n == n
 | .string s => decide (s.size ≤ 9223372036854775807)
 | _ => true
def zar : Operand → Bool
 | .const v => zbj v
 | _ => true
def zK (p : Addr → Prop) (w : World) (env : Env) (a : Act) : Prop := ∀ t d, lk env t = some d → Rep p w d (a.tmps.getD t Go.undef)
theorem zK.grow {p p' : Addr → Prop} {w w' : World} {env : Env} {a : Act} (h : zK p w env a) (g : zM p w p' w') : zK p' w' env a := fun t d ht => (h t d ht).grow g
theorem qlg {p : Addr → Prop} {w : World} {v : Value} {d : D} (h : zau v = some d) (ho : zbj v = true) : Rep p w d v := by
 unfold zau at h
 split at h <;> first | (injection h with h; subst h) | (cases h; done)
 · simp only [Rep]
 · simpa [Rep, zbj] using ho
 · simpa [Rep, zbj] using ho
 · simp only [Rep]; exact ⟨none, [], rfl, by simp, .inl rfl, zo.nil _ _, by simp⟩
 · simp only [Rep]
 · simp only [Rep]
 · simp only [Rep]
 · simp only [Rep]
theorem qr0 {p : Addr → Prop} {w : World} {env : Env} {a : Act} (h : zK p w env a) {x : Operand} {d : D} (hx : ev env x = some d) (ho : zar x = true) : Rep p w d (a.eval x) := by
 cases x with
 | tmp t => exact h t d hx
 | const v => exact qlg hx ho
 | func f =>
  injection hx with hx
  subst hx
  simp only [Rep]
  exact ⟨[], [], rfl, zz.nil _ _, zz.nil _ _⟩
 | global g => cases hx
theorem qfj (k : Nat) (d : D) (env : Env) (s : Nat) : lk ((k, d) :: env) s = if k = s then some d else lk env s := by
 simp only [lk]
 by_cases h : k = s
 · subst h; simp
 · rw [if_neg h]
   have : Nat.beq k s = false := by
    cases hb : Nat.beq k s
    · rfl
    · exact absurd (Nat.eq_of_beq_eq_true hb) h
   rw [this]; rfl
def Env.put (env : Env) (dst : Option Tmp) (d : D) : Env := match dst with
 | some t => (t, d) :: env
 | none => env
theorem zK.put {p : Addr → Prop} {w : World} {env : Env} {a : Act} {dst : Option Tmp} {d : D} {v : Value} (h : zK p w env a) (hv : Rep p w d v) (hd : ∀ t, dst = some t → t < a.tmps.size) : zK p w (env.put dst d) (a.put dst v) := by
 cases dst with
 | none => exact h
 | some t =>
  intro s e hs
  rw [Env.put, qfj] at hs
  simp only [Act.put]
  by_cases hts : t = s
  · subst hts
    rw [if_pos rfl] at hs
    injection hs with hs
    subst hs
    simpa [hd t rfl] using hv
  · rw [if_neg hts] at hs
    have := h s e hs
    simpa [Array.getElem?_setIfInBounds_ne hts] using this
def Sub (env' env : Env) : Prop := ∀ t d, lk env' t = some d → ∃ e, lk env t = some e ∧ Wk e d
theorem Sub.nil (env : Env) : Sub [] env := fun _ _ h => by cases h
theorem Sub.cons {env' env : Env} {k : Nat} {d e : D} (h : lk env k = some e) (hw : Wk e d) (hs : Sub env' env) : Sub ((k, d) :: env') env := fun t d' ht => by
 rw [qfj] at ht
 by_cases hk : k = t
 · subst hk
   rw [if_pos rfl] at ht
   injection ht with ht
   subst ht
   exact ⟨e, h, hw⟩
 · rw [if_neg hk] at ht
   exact hs t d' ht
theorem Sub.cons' {env' env : Env} {k : Nat} {d : D} (h : lk env k = some d) (hs : Sub env' env) : Sub ((k, d) :: env') env := Sub.cons h (Wk.refl d) hs
theorem sc {env' env : Env} {k : Nat} {d : D} (h : lk env k = some d) (hs : Sub env' env) : Sub ((k, d) :: env') env := Sub.cons' h hs
theorem zK.sub {p : Addr → Prop} {w : World} {env env' : Env} {a : Act} (h : zK p w env a) (hs : Sub env' env) : zK p w env' a := fun t d ht =>
 let ⟨e, h1, h2⟩ := hs t d ht
 h2 _ _ _ (h t e h1)
theorem za3 (b o k : Nat) : (⟨b, o, none⟩ : Addr).add k = ⟨b, o + k, none⟩ := by
 unfold Addr.add; split
 · rename_i h; simp [h]
 · rfl
structure Md where
 rd : Option Nat
 ms : List Nat
 ds : List Deferred
 kd : CallKind
abbrev Md.top : Md := ⟨none, [], [], .normal⟩
def y5 (kd : CallKind) (P : Program) (fr : Frame) (w : World) : Ending → Prop
 | .returned v => fr.mode = .returning ∧ fr.defers = [] ∧ fr.kind = kd ∧ ∃ fn, P.funcs[fr.fn]? = some fn ∧ (results fn fr.tmps).run P w = .ok v w
 | .panicked chain => fr.mode = .panicking chain ∧ fr.defers = [] ∧ ∃ fn, P.funcs[fr.fn]? = some fn
 | .outgrown => True
theorem y5.normal {P : Program} {fr : Frame} {w : World} {e : Ending} (h : y5 .normal P fr w e) : fr.leaving P w e := by
 cases e with
 | returned v => exact h
 | panicked c => exact h
 | outgrown => trivial
def Md.marks (m : Md) : List Deferred := m.ds ++ m.ms.map fun D => { target := .collected D, args := #[] }
def Fin (rd : Option Nat) (kd : CallKind) (P : Program) (f : FuncId) (K : Ctx) (R : D → St → Prop) (fr0 : Frame) (cs : List Frame) (w : World) : Prop :=
 match rd with
 | none => ∃ e w' fr, Left K R e w' ∧ Comes P (lone fr0 cs w) (lone fr cs w') e ∧ fr.fn = f ∧ y5 kd P fr w' e
 | some _ => ∀ c cs', cs = c :: cs' → ∃ v w', Left K R (.returned v) w' ∧ Steps P (lone fr0 cs w) (lone (c.finish v) cs' w')
theorem Fin.of_steps {rd : Option Nat} {kd : CallKind} {P : Program} {f : FuncId} {K : Ctx} {R : D → St → Prop} {fr0 fr1 : Frame} {cs : List Frame} {w w1 : World} (hs : Steps P (lone fr0 cs w) (lone fr1 cs w1)) (h : Fin rd kd P f K R fr1 cs w1) : Fin rd kd P f K R fr0 cs w := by
 cases rd with
 | none =>
  obtain ⟨e, w', fr, h1, h2, h3, h4⟩ := h
  exact ⟨e, w', fr, h1, .of_steps hs h2, h3, h4⟩
 | some l =>
  intro c cs' hc
  obtain ⟨v, w', h1, h2⟩ := h c cs' hc
  exact ⟨v, w', h1, hs.trans h2⟩
def Rest (m : Md) (P : Program) (f : FuncId) (fn : Func) (K : Ctx) (R : D → St → Prop) (k : List Item) (a : Act) (w : World) : Prop :=
 ∀ (b : Frame) (cs : List Frame), b.fn = f → b.kind = m.kd → b.roundOf = m.rd → P.funcs[f]? = some fn → Fin m.rd m.kd P f K R (b.atR a k) cs w
def zg (m : Md) (P : Program) (f : FuncId) (fn : Func) (K : Ctx) (R : D → St → Prop) (k : List Item) (env : Env) (σ : St) : Prop :=
 ∀ (p : Addr → Prop) (a : Act) (w : World), Inv K p σ w → zK p w env a → fn.ntmps ≤ a.tmps.size → a.defers = m.marks → Rest m P f fn K R k a w
abbrev Goes (P : Program) (f : FuncId) (fn : Func) (K : Ctx) (R : D → St → Prop) (k : List Item) : Env → St → Prop := zg Md.top P f fn K R k
def fw : Option Nat → Fence
 | none => Fence.wide
 | some l => Fence.wide.inRound l
theorem qrN (rd : Option Nat) : (fw rd).round = rd := by cases rd <;> rfl
theorem qkW (rd : Option Nat) (f : FuncId) : (fw rd).fn f := by cases rd <;> trivial
theorem qsl (rd : Option Nat) (n : Nat) : (fw rd).room n := by cases rd <;> exact room_wide _
theorem qn0 {rd : Option Nat} {P : Program} {m m' : Machine} (h : StepsIn (Machine.fenced P (fw rd)) P m m') : Steps P m m' := by
 cases rd <;> exact stepsIn_wide.1 h
theorem qrM {rd : Option Nat} {n : Nat} {P : Program} {f : FuncId} {args : Array Value} {w : World} {R : Ending → World → Prop} (h : Calls P f args w R) : CallsIn (fw rd) n P f args w R := by
 cases rd with
 | none => exact callsIn_wide.2 h
 | some l => exact CallsIn.inRound l (callsIn_wide.2 h)
section
variable {m : Md} {P : Program} {f : FuncId} {fn : Func} {K : Ctx} {R : D → St → Prop} {k : List Item} {env : Env} {σ : St}
theorem qjs {k' : List Item} (hs : ∀ (b : Frame) (a : Act) (cs : List Frame) (w : World), step P (lone (b.atR a k) cs w) = .next (lone (b.atR a k') cs w)) (h : zg m P f fn K R k' env σ) : zg m P f fn K R k env σ :=
 fun p a w hi hr hn hd b cs hb hk hro hf => .of_steps (.one (hs b a cs w)) (h p a w hi hr hn hd b cs hb hk hro hf)
theorem qk {x y : Code} (h : zg m P f fn K R (.code x :: .code y :: k) env σ) : zg m P f fn K R (.code (.seq x y) :: k) env σ := qjs (fun _ _ _ _ => stepR_seq) h
theorem qU (h : zg m P f fn K R k env σ) : zg m P f fn K R (.code .skip :: k) env σ := qjs (fun _ _ _ _ => stepR_skip) h
theorem qK {id : Nat} (h : zg m P f fn K R k env σ) : zg m P f fn K R (.inBlock id :: k) env σ := qjs (fun _ _ _ _ => stepR_inBlock) h
theorem qaP {id : Nat} {c : Code} (h : zg m P f fn K R (.code c :: .inBlock id :: k) env σ) : zg m P f fn K R (.code (.block id c) :: k) env σ := qjs (fun _ _ _ _ => stepR_block) h
theorem qbB {id : Nat} {k' : List Item} (he : exitTo id k = some k') (h : zg m P f fn K R k' env σ) : zg m P f fn K R (.code (.exit id) :: k) env σ := qjs (fun _ _ _ _ => stepR_exit he) h
theorem qoE {c : Code} (h : zg m P f fn K R (.code c :: .inLoop c :: k) env σ) : zg m P f fn K R (.inLoop c :: k) env σ := qjs (fun _ _ _ _ => stepR_inLoop) h
theorem qoB {c : Operand} {x y : Code} {t : Bool} (hc : ev env c = some (.bool t)) (ho : zar c = true) (h1 : t = true → zg m P f fn K R (.code x :: k) env σ) (h2 : t = false → zg m P f fn K R (.code y :: k) env σ) : zg m P f fn K R (.code (.cond c x y) :: k) env σ :=
 fun p a w hi hr hn hd b cs hb hk hro hf => by
  have hv := qr0 hr hc ho
  simp only [Rep] at hv
  have hs := stepR_cond (P := P) (b := b) (k := k) (cs := cs) (w := w) (x := x) (y := y) hv
  cases t with
  | true => exact .of_steps (.one hs) (h1 rfl p a w hi hr hn hd b cs hb hk hro hf)
  | false => exact .of_steps (.one hs) (h2 rfl p a w hi hr hn hd b cs hb hk hro hf)
theorem qcc {c : Code} (I : Nat → Env → St → Prop) (n : Nat) (h0 : I n env σ) (round : ∀ n env σ, I n env σ → (∀ m' env' σ', m' < n → I m' env' σ' → zg m P f fn K R (.inLoop c :: k) env' σ') → zg m P f fn K R (.code c :: .inLoop c :: k) env σ) : zg m P f fn K R (.code (.loop c) :: k) env σ := by
 refine qjs (fun _ _ _ _ => stepR_loop) ?_
 have key : ∀ n env σ, I n env σ → zg m P f fn K R (.code c :: .inLoop c :: k) env σ := by
  intro n
  induction n using Nat.strongRecOn with
  | _ n ih => exact fun env σ hI => round n env σ hI fun m env' σ' hm hI' => qoE (ih m hm env' σ' hI')
 exact key n env σ h0
theorem qal (env' : Env) (hs : Sub env' env) (h : zg m P f fn K R k env' σ) : zg m P f fn K R k env σ := fun p a w hi hr => h p a w hi (hr.sub hs)
theorem qbf (σ' τ : St) (hs : σ.Perm (σ' ++ τ)) (h : zg m P f fn K R k env σ') : zg m P f fn K R k env σ := fun p a w hi => h p a w ((hi.perm hs).less)
def zaX (P : Program) (K : Ctx) (n : Nat) (m : Md) (X : Env → D → St → Prop) (Q : Env → St → Prop) : Exit → Act → World → Prop := fun e a' w' =>
 (e = .normal ∧ ∃ env' σ' p', Q env' σ' ∧ Inv K p' σ' w' ∧ zK p' w' env' a' ∧ n ≤ a'.tmps.size ∧ a'.defers = m.marks) ∨ ∃ v d τ p' env', e = .panic [{ v, recovered := false }] ∧ X env' d τ ∧ Rep p' w' d v ∧ Inv K p' τ w' ∧ zK p' w' env' a' ∧ a'.defers = m.marks
theorem qiQ {id : Nat} {ops : Array Oper} {dr : Bool} {Q : Env → St → Prop} {X : Env → D → St → Prop} (h : ∀ (p : Addr → Prop) (a : Act) (w : World), Inv K p σ w → zK p w env a → fn.ntmps ≤ a.tmps.size → a.defers = m.marks → (Code.region id ops dr).wpIn (fw m.rd) 0 P (zaX P K fn.ntmps m X Q) a w)
 (hX : ∀ e d τ, X e d τ → K.X d τ ∧ m = Md.top) (hq : ∀ env' σ', Q env' σ' → zg m P f fn K R k env' σ') : zg m P f fn K R (.code (.region id ops dr) :: k) env σ := fun p a w hi hr hn hd b cs hb hk hro hf => by
 obtain ⟨e, a', w', hE, harr⟩ := h p a w hi hr hn hd b k cs (hro.trans (qrN _).symm) (qkW _ _) (qsl _ _)
 rcases hE with ⟨rfl, env', σ', p', q, i1, i2, i3, i4⟩ | ⟨v, d, τ, p', env', rfl, hx, hv, hi', _, hd'⟩
 · exact .of_steps (qn0 harr) (hq env' σ' q p' a' w' i1 i2 i3 i4 b cs hb hk hro hf)
 · obtain ⟨todo, hs⟩ := harr
   obtain ⟨hx, rfl⟩ := hX env' d τ hx
   exact ⟨.panicked [{ v, recovered := false }], w', { b.atR a' todo with mode := .panicking [{ v, recovered := false }] }, .inr ⟨v, d, τ, p', rfl, hx, hv, hi'⟩, qn0 hs, hb, rfl, hd', fn, by rw [← hb] at hf; exact hf⟩
theorem qlU {C : Prop} (hC : ∀ (p : Addr → Prop) (a : Act) (w : World), Inv K p σ w → zK p w env a → C) (h : C → zg m P f fn K R k env σ) : zg m P f fn K R k env σ := fun p a w hi hr => h (hC p a w hi hr) p a w hi hr
/-! ### the end -/
def zap : TypeDesc → Bool
 | .struct _ | .array _ _ => true
 | _ => false
def Ty (P : Program) (t : TypeId) (b : Bool) (n : Nat) : Prop := (∃ x, P.underlying t = some x ∧ zap x = b) ∧ (P.info? t).map (·.size) = some n
theorem qq5 {t : TypeId} {b : Bool} {n : Nat} (h : Ty P t b n) (w : World) : (isAgg t).run P w = .ok b w := by
 obtain ⟨⟨x, hx, hb⟩, _⟩ := h
 unfold isAgg
 simp only [Sem.run_bind, run_underlying hx, Result.andThen_ok]
 cases x <;> simp_all [zap]
theorem qpu {t : TypeId} {b : Bool} {n : Nat} (h : Ty P t b n) (w : World) : (sizeOf t).run P w = .ok n w := by
 obtain ⟨_, hs⟩ := h
 obtain ⟨i, hi, hn⟩ := Option.map_eq_some_iff.1 hs
 simp [sizeOf, typeInfo, hi, hn]
theorem qfp {t : TypeId} {n : Nat} {d : D} {p : Addr → Prop} {w : World} {u : Value} {b o : Nat} (ht : Ty P t d.isAgg n) (hn : sz d = n) (hu : Rep p w d u) (hc : ∀ j x, u.cells.toList[j]? = some x → w.cell? ⟨b, o + j, none⟩ = some x) : (loadVar t ⟨b, o, none⟩).run P w = .ok u w := by
 have hs := Rep.sz hu
 have hback := Rep.back hu
 unfold loadVar
 simp only [Sem.run_bind, qq5 ht, Result.andThen_ok]
 have hc' : ∀ j v, u.cells.toList[j]? = some v → w.cell? ((⟨b, o, none⟩ : Addr).add j) = some v := fun j v hv => by rw [za3]; exact hc j v hv
 cases hd : d.isAgg with
 | true =>
  have hl := run_loadCells_list (P := P) w ⟨b, o, none⟩ u.cells.toList hc'
  rw [Array.length_toList, hs, hn] at hl
  simp only [if_true, Sem.run_bind, qpu ht, Result.andThen_ok, hl]
  rw [hback]
  cases d <;> simp [D.isAgg] at hd
  simp [yg, Value.cells]
 | false =>
  simp only [Bool.false_eq_true, if_false]
  have h1 : u.cells.toList[0]? = some u := by
   cases d <;> simp [D.isAgg] at hd <;> simp only [Rep] at hu
   case tup => obtain ⟨vs, rfl, _⟩ := hu; simp [Value.cells]
   case undef => subst hu; simp [Value.cells, Go.undef]
   case bool => subst hu; simp [Value.cells]
   case int => rw [hu.1]; simp [Value.cells]
   case str => rw [hu.1]; simp [Value.cells]
   case lst => obtain ⟨A, c, xs, rfl, _⟩ := hu; simp [Value.cells]
   case full => obtain ⟨A, xs, rfl, _⟩ := hu; simp [Value.cells]
   case own => obtain ⟨rfl, A, c, xs, rfl, _⟩ := hu; simp [Value.cells]
   case ptr => obtain ⟨b, o, u, rfl, _⟩ := hu; simp [Value.cells]
   case ref => subst hu; simp [Value.cells]
   case mref => subst hu; simp [Value.cells]
   case arr => obtain ⟨A, c, rfl, _⟩ := hu; simp [Value.cells]
   case vec => obtain ⟨rfl, A, c, rfl, _⟩ := hu; simp [Value.cells]
   case clo => obtain ⟨fs, cs, rfl, _⟩ := hu; simp [Value.cells]
   case nilf => subst hu; simp [Value.cells]
   case nilm => subst hu; simp [Value.cells]
   case nilp => subst hu; simp [Value.cells]
   case map => subst hu; simp [Value.cells]
   case ifc => obtain ⟨u, rfl, _⟩ := hu; simp [Value.cells]
   case nili => subst hu; simp [Value.cells]
  have h2 := hc 0 u h1
  simp only [Nat.add_zero] at h2
  simp [h2]
def ResD (P : Program) (env : Env) (σ : St) : ResultVar → D → Prop
 | .tmp t, d => ∃ e, lk env t = some e ∧ Wk e d
 | .cell t ty, d => ∃ e n, Wk e d ∧ Ty P ty e.isAgg n ∧ sz e = n ∧ (lk env t = some (.ptr e) ∨ ∃ b, lk env t = some (.ref b 0 []) ∧ .cell b e ∈ σ)
inductive zaf (P : Program) (env : Env) (σ : St) : List ResultVar → List D → Prop
 | nil : zaf P env σ [] []
 | cons {r : ResultVar} {d : D} {rs : List ResultVar} {ds : List D} (h : ResD P env σ r d) (k : zaf P env σ rs ds) : zaf P env σ (r :: rs) (d :: ds)
def yP : List D → D
 | [d] => d
 | ds => .tup ds
def zbw (a : Act) : ResultVar → Sem Value
 | .tmp t => pure (a.tmps.getD t Go.undef)
 | .cell x t => do loadVar t (← asAddr (a.tmps.getD x Go.undef))
theorem qpd {p : Addr → Prop} {a : Act} {w : World} (hi : Inv K p σ w) (hr : zK p w env a) {r : ResultVar} {d : D} (h : ResD P env σ r d) :
 ∃ v, (zbw a r).run P w = .ok v w ∧ Rep p w d v := by
 cases r with
 | tmp t =>
  obtain ⟨e, h1, h2⟩ := h
  exact ⟨_, by simp [zbw], h2 _ _ _ (hr t e h1)⟩
 | cell t ty =>
  obtain ⟨e, n, hw, ht, hn, h1 | ⟨b, h1, h2⟩⟩ := h
  · have := hr t _ h1
    simp only [Rep] at this
    obtain ⟨b, o, u, h3, h4, h5, h6⟩ := this
    have hl := qfp (P := P) (b := b) (o := o) ht hn h5 (fun j x hx => by
     rcases h4 with h4 | ⟨b', o', h4, h7⟩
     · rw [h4] at hx; simp at hx
     · injection h4 with h4; injection h4 with h4 h8; subst h4 h8; exact (h7 j x hx).2)
    exact ⟨u, by simp only [zbw, h3, asAddr, Sem.run_bind, Sem.run_pure, Result.andThen_ok, hl], hw _ _ _ h5⟩
  · have := hr t _ h1
    simp only [Rep] at this
    obtain ⟨u, ty', h3, h4, h5, h6⟩ := hi.ok _ h2
    have hl := qfp (P := P) (b := b) (o := 0) ht hn h3 (fun j x hx => by
     rw [cell_of_row _ _ _ _ _ _ h5]
     simpa using hx)
    exact ⟨u, by simp only [zbw, this, asAddr, Sem.run_bind, Sem.run_pure, Result.andThen_ok, hl], hw _ _ _ h3⟩
theorem qkb {p : Addr → Prop} {a : Act} {w : World} (hi : Inv K p σ w) (hr : zK p w env a) : ∀ {rs : List ResultVar} {ds : List D}, zaf P env σ rs ds →
 ∃ vs : List Value, (rs.mapM (zbw a)).run P w = .ok vs w ∧ zz p w ds vs
 | _, _, .nil => ⟨[], by simp, zz.nil _ _⟩
 | _, _, .cons h k => by
  obtain ⟨v, h1, h2⟩ := qpd hi hr h
  obtain ⟨vs, h3, h4⟩ := qkb hi hr k
  exact ⟨v :: vs, by simp only [List.mapM_cons, Sem.run_bind, h1, Result.andThen_ok, h3, Sem.run_pure], zz.cons h2 h4⟩
theorem qnm {p : Addr → Prop} {a : Act} {w : World} (hi : Inv K p σ w) (hr : zK p w env a) {ds : List D} (h : zaf P env σ fn.results.toList ds) : ∃ v, (results fn a.tmps).run P w = .ok v w ∧ Rep p w (yP ds) v := by
 obtain ⟨vs, h1, h2⟩ := qkb hi hr h
 have e : results fn a.tmps = (do let vs ← fn.results.mapM (zbw a); pure (if h : vs.size = 1 then vs[0] else .tuple vs)) := by
  unfold results
  congr 1
 rw [e]
 have e2 : (fn.results.mapM (zbw a)).run P w = .ok vs.toArray w := by
  rw [Array.mapM_eq_mapM_toList]
  simp [h1]
 simp only [Sem.run_bind, e2, Result.andThen_ok, Sem.run_pure]
 refine ⟨_, rfl, ?_⟩
 match ds, vs, h2 with
 | [], vs, h2 =>
  simp only [zz] at h2
  subst h2
  simp only [yP, Rep, zz]
  exact ⟨[], rfl, rfl⟩
 | [d], vs, h2 =>
  simp only [zz] at h2
  obtain ⟨v, rest, rfl, h3, rfl⟩ := h2
  simpa [yP] using h3
 | d :: e :: ds, vs, h2 =>
  have h2' := h2
  simp only [zz] at h2
  obtain ⟨v, rest, rfl, h3, u, rest', rfl, h4, h5⟩ := h2
  simp only [yP, Rep]
  refine ⟨v :: u :: rest', by simp, h2'⟩
theorem qnh {p : Addr → Prop} {a : Act} {w : World} {ds : List D} (hi : Inv K p σ w) (hr : zK p w env a) (hd : a.defers = []) (hf : P.funcs[f]? = some fn) (hds : zaf P env σ fn.results.toList ds) (hR : R (yP ds) σ) (b : Frame) {kd : CallKind} (hb : b.fn = f) (hk : b.kind = kd) (todo : List Item) :
 ∃ e, Left K R e w ∧ y5 kd P ({ b.atR a todo with mode := .returning } : Frame) w e ∧ e ≠ .outgrown := by
 obtain ⟨v, h1, h2⟩ := qnm (fn := fn) hi hr hds
 exact ⟨.returned v, .inl ⟨v, _, σ, p, rfl, hR, h2, hi⟩, ⟨rfl, hd, hk, fn, by rw [← hb] at hf; exact hf, h1⟩, fun h => by cases h⟩
theorem qS (_ : P.funcs[f]? = some fn) (ds : List D) (hds : zaf P env σ fn.results.toList ds) (hR : R (yP ds) σ) : Goes P f fn K R (.code .ret :: k) env σ := fun p a w hi hr hn hd b cs hb hk hro hf => by
 obtain ⟨e, h1, h2, h3⟩ := qnh (R := R) hi hr hd hf hds hR b hb hk (.code .ret :: k)
 refine ⟨e, w, { b.atR a (.code .ret :: k) with mode := .returning }, h1, ?_, hb, h2⟩
 cases e with
 | returned v => exact Steps.one (stepR_ret hro)
 | panicked c => exact Steps.one (stepR_ret hro)
 | outgrown => exact absurd rfl h3
theorem qs7 (_ : P.funcs[f]? = some fn) (ds : List D) (hds : zaf P env σ fn.results.toList ds) (hR : R (yP ds) σ) : Goes P f fn K R [] env σ := fun p a w hi hr hn hd b cs hb hk hro hf => by
 obtain ⟨e, h1, h2, h3⟩ := qnh (R := R) hi hr hd hf hds hR b hb hk []
 refine ⟨e, w, { b.atR a [] with mode := .returning }, h1, ?_, hb, h2⟩
 cases e with
 | returned v => exact Steps.one (stepR_end hro)
 | panicked c => exact Steps.one (stepR_end hro)
 | outgrown => exact absurd rfl h3
def zav : Nat → List D → Env
 | _, [] => []
 | i, d :: ds => (i, d) :: zav (i + 1) ds
theorem qjT : ∀ (ds : List D) (i t : Nat) (d : D), lk (zav i ds) t = some d → i ≤ t ∧ ds[t - i]? = some d
 | [], _, _, _, h => by cases h
 | e :: ds, i, t, d, h => by
  rw [zav, qfj] at h
  by_cases hi : i = t
  · subst hi
    rw [if_pos rfl] at h
    exact ⟨Nat.le_refl _, by simpa using h⟩
  · rw [if_neg hi] at h
    obtain ⟨h1, h2⟩ := qjT ds (i + 1) t d h
    refine ⟨by omega, ?_⟩
    have : t - i = (t - (i + 1)) + 1 := by omega
    rw [this]
    simpa using h2
theorem qsk {c : Code} {ds : List D} (hf : P.funcs[f]? = some fn) (hb : fn.body = some c) (h : ∀ K, (K.F0 = fun b => b ∈ yN σ) → Goes P f fn K R [.code c] (zav 0 ds) σ) : Spec P f ds σ R := by
 intro w p vs hi hv cs
 let b : Frame := { (default : Frame) with fn := f, kind := .normal, roundOf := none }
 have henter : Frame.enter P f vs.toArray .normal = b.atR { tmps := vs.toArray ++ Array.replicate (fn.ntmps - vs.toArray.size) undef, defers := [] } [.code c] := by
  simp [Frame.enter, Frame.atR, hf, hb, b]
 rw [henter]
 suffices hS : Fin none .normal P f (ctx w p σ) R (b.atR { tmps := vs.toArray ++ Array.replicate (fn.ntmps - vs.toArray.size) undef, defers := [] } [.code c]) cs w by
  obtain ⟨e, w', fr, h1, h2, h3, h4⟩ := hS
  exact ⟨e, w', fr, h1, h2, h3, h4.normal⟩
 refine h (ctx w p σ) rfl p _ w hi ?_ ?_ rfl b cs rfl rfl rfl hf
 · intro t d ht
   obtain ⟨_, h2⟩ := qjT ds 0 t d ht
   obtain ⟨v, h3, h4⟩ := hv.at_ h2
   have : (vs.toArray ++ Array.replicate (fn.ntmps - vs.toArray.size) Go.undef).getD t Go.undef = v := by
    have hlt := (List.getElem?_eq_some_iff.1 h3).1
    have h5 : vs[t]? = some v := by simpa using h3
    rw [Array.getD_eq_getD_getElem?, Array.getElem?_append_left (by simpa using hlt)]
    simp [h5]
   rw [this]
   exact h4
 · simp; omega
theorem q7 {c : Code} {ds : List D} (env : Env) (hf : P.funcs[f]? = some fn) (hb : fn.body = some c) (he : zav 0 ds = env) (h : ∀ K, (K.F0 = fun b => b ∈ yN σ) → Goes P f fn K R [.code c] env σ) : Spec P f ds σ R := qsk hf hb fun K hK => he ▸ h K hK
end
def yJ (ops : Array Oper) (env : Env) (o : Oper) : Option Bool :=
 match o.guard with
 | none => some true
 | some (j, want) =>
  match (ops[j]?).bind (·.dst) with
  | none => none
  | some t =>
   match lk env t with
   | some (.bool b) => some (b == want)
   | some .undef => some false
   | _ => none
theorem qdz {p : Addr → Prop} {w : World} {ops : Array Oper} {env : Env} {a : Act} {o : Oper} {b : Bool} (hr : ∀ t ∈ o.looksAt ops, ∀ d, lk env t = some d → Rep p w d (a.tmps.getD t Go.undef)) (h : yJ ops env o = some b) : Region.wanted o (yielded ops a.tmps) = b := by
 unfold yJ at h
 unfold Region.wanted
 cases hg : o.guard with
 | none => simp only [hg] at h ⊢; injection h
 | some jw =>
  obtain ⟨j, want⟩ := jw
  simp only [hg] at h ⊢
  unfold yielded
  cases hd : (ops[j]?).bind (·.dst) with
  | none => simp [hd] at h
  | some t =>
   simp only [hd] at h ⊢
   have hm : t ∈ o.looksAt ops := by simp [Oper.looksAt, hg, hd]
   cases hl : lk env t with
   | none => simp [hl] at h
   | some d =>
    have hv := hr t hm d hl
    simp only [hl] at h
    cases d <;> simp only [Rep] at hv <;> simp at h
    · rw [Array.getD_eq_getD_getElem?] at hv
      cases hq : a.tmps[t]? with
      | none => rw [hq] at hv; cases hv
      | some u =>
       rw [hq] at hv
       simp only [Option.getD_some] at hv
       subst hv h
       rename_i bb
       simp only [Option.bind_some, hq]
       cases want <;> cases bb <;> rfl
    · rw [Array.getD_eq_getD_getElem?] at hv
      subst h
      cases hq : a.tmps[t]? with
      | none => simp [hq]
      | some u =>
       rw [hq] at hv
       simp only [Option.getD_some] at hv
       subst hv
       simp [hq, Go.undef]
def zt (P : Program) (o : Oper) (ρ : Operand → Option D) (σ : St) (R : D → St → Prop) : Prop :=
 ∀ (K : Ctx) (p : Addr → Prop) (a : Act) (w : World), Inv K p σ w → (∀ x ∈ o.op.operands, ∀ d, ρ x = some d → Rep p w d (a.eval x)) →
  o.wp P a w (fun a' w' => ∃ v d σ' p', a' = a.put o.dst v ∧ R d σ' ∧ Rep p' w' d v ∧ Inv K p' σ' w' ∧ zM p w p' w') (fun _ _ _ => False)
def zu (P : Program) (o : Oper) (ρ : Operand → Option D) (d : D) : Prop := ∀ σ, zt P o ρ σ fun d' σ' => d' = d ∧ σ' = σ
def zas (P : Program) (o : Oper) (ρ : Operand → Option D) (σ : St) (R : D → St → Prop) : Prop :=
 ∀ (rd : Option Nat) (K : Ctx) (p : Addr → Prop) (a : Act) (w : World), Inv K p σ w → (∀ x ∈ o.op.operands, ∀ d, ρ x = some d → Rep p w d (a.eval x)) →
  o.wpIn (fw rd) 0 P a w (fun a' w' => ∃ v d σ' p', a' = a.put o.dst v ∧ R d σ' ∧ Rep p' w' d v ∧ Inv K p' σ' w' ∧ zM p w p' w') (fun _ _ _ => False)
theorem qeu (a : Act) (dst : Option Tmp) (v : Value) : (a.put dst v).defers = a.defers := by cases dst <;> rfl
theorem qk3 {rd : Option Nat} {P : Program} {m m' : Machine} (h : Steps P m m') : StepsIn (Machine.fenced P (fw rd)) P m m' := by
 cases rd <;> exact stepsIn_wide.2 h
theorem qqU {P : Program} {o : Oper} {a : Act} {rd : Option Nat} {N : Act → World → Prop} {Q : Exit → Act → World → Prop} {r : Result Next} (h : o.upon P a N Q r) : o.uponIn (fw rd) 0 P a N Q r := by
 have hd : (fw rd).depth.isSome = true → False := by cases rd <;> (intro h; cases h)
 unfold Oper.upon at h
 unfold Oper.uponIn
 split at h
 · exact h
 · exact h
 · exact h
 · exact ⟨fun h => (hd h).elim, qrM h⟩
 · refine ⟨fun h => (hd h).elim, fun c cs _ => ?_⟩
   obtain ⟨v, w', h1, h2⟩ := h c cs
   exact ⟨v, w', h1, qk3 h2⟩
 · exact h
 · exact h.elim
theorem qkc {P : Program} {o : Oper} {a : Act} {w : World} {N : Act → World → Prop} {Q : Exit → Act → World → Prop} (h : o.wp P a w N Q) : o.wpIn (fw none) 0 P a w N Q :=
 ⟨fun f _ => qkW none f, qqU h⟩
theorem zt.y {P : Program} {o : Oper} {ρ : Operand → Option D} {σ : St} {R : D → St → Prop} (h : zt P o ρ σ R) : zas P o ρ σ R := fun rd K p a w hi hv => by
 have h0 := h K p a w hi hv
 cases rd with
 | none => exact qkc h0
 | some l =>
  refine ⟨fun f _ => qkW _ f, ?_⟩
  by_cases hd : ∃ c, o.op = .defer c
  · obtain ⟨c, hc⟩ := hd
    exfalso
    unfold Oper.wp at h0
    simp only [execOp, hc, Sem.run_bind] at h0
    cases hr : (resolve a.eval c o.type).run P w with
    | ok d w' =>
     rw [hr] at h0
     obtain ⟨v, d', σ', p', e, _⟩ := h0
     have := congrArg Act.defers e
     rw [qeu, qeu] at this
     have := congrArg List.length this
     simp at this
    | halt x w' =>
     rw [hr] at h0
     cases x <;> exact h0
  · rw [show (fw (some l)).round = some l from rfl, Oper.semAt_eq _ _ _ fun c hc => hd ⟨c, hc⟩]
    exact qqU h0
def DieT (P : Program) (o : Oper) (ρ : Operand → Option D) (σ τ : St) (d : D) : Prop :=
 ∀ (K : Ctx) (p : Addr → Prop) (a : Act) (w : World), Inv K p σ w → (∀ x ∈ o.op.operands, ∀ d, ρ x = some d → Rep p w d (a.eval x)) →
  o.wp P a w (fun _ _ => False) (fun e a' w' => ∃ v p', e = .panic [{ v, recovered := false }] ∧ a' = a ∧ Rep p' w' d v ∧ Inv K p' τ w' ∧ zM p w p' w')
abbrev NX : Env → D → St → Prop := fun _ _ _ => False
inductive Cls where
 | d | r | w | x
 deriving DecidableEq
def Cls.isW : Cls → Bool
 | .w | .x => true
 | _ => false
section
variable {P : Program} {ops : Array Oper}
def Run (P : Program) (ops : Array Oper) (X : Env → D → St → Prop) (Q : Env → St → Prop) : List (Nat × Cls) → Env → St → Prop
 | [], env, σ => Q env σ
 | (i, c) :: l, env, σ => ∃ o, ops[i]? = some o ∧ ((yJ ops env o = some false ∧ Run P ops X Q l (env.put o.dst .undef) σ) ∨ (yJ ops env o = some true ∧ match c with
  | .d => ∃ d, zu P o (ev env) d ∧ Run P ops X Q l (env.put o.dst d) σ
  | .r => ∃ d, zt P o (ev env) σ (fun d' σ' => d' = d ∧ σ' = σ) ∧ Run P ops X Q l (env.put o.dst d) σ
  | .w => ∃ R, zas P o (ev env) σ R ∧ ∀ d σ', R d σ' → Run P ops X Q l (env.put o.dst d) σ'
  | .x => ∃ R, zas P o (ev env) σ R ∧ ∀ d σ', R d σ' → Run P ops X Q l (env.put o.dst d) σ') ∨ (yJ ops env o = some true ∧ ∃ e d τ, (∀ t, lk e t = lk env t) ∧ X e d τ ∧ DieT P o (ev env) σ τ d ∧ c.isW = true))
theorem qgn {X : Env → D → St → Prop} {Q Q' : Env → St → Prop} (hq : ∀ e s, Q e s → Q' e s) : ∀ (l : List (Nat × Cls)) (env : Env) (σ : St), Run P ops X Q l env σ → Run P ops X Q' l env σ
 | [], _, _, h => hq _ _ h
 | (i, c) :: l, env, σ, h => by
  obtain ⟨o, ho, h⟩ := h
  refine ⟨o, ho, ?_⟩
  rcases h with ⟨hw, h⟩ | ⟨hw, h⟩ | h
  · exact .inl ⟨hw, qgn hq l _ _ h⟩
  rotate_left
  · exact .inr (.inr h)
  · refine .inr (.inl ⟨hw, ?_⟩)
    cases c with
    | d => obtain ⟨d, h1, h2⟩ := h; exact ⟨d, h1, qgn hq l _ _ h2⟩
    | r => obtain ⟨d, h1, h2⟩ := h; exact ⟨d, h1, qgn hq l _ _ h2⟩
    | w => obtain ⟨R, h1, h2⟩ := h; exact ⟨R, h1, fun d σ' hR => qgn hq l _ _ (h2 d σ' hR)⟩
    | x => obtain ⟨R, h1, h2⟩ := h; exact ⟨R, h1, fun d σ' hR => qgn hq l _ _ (h2 d σ' hR)⟩
def yO (ops : Array Oper) (n : Nat) : Bool := ops.toList.all fun o => (match o.dst with | some t => decide (t < n) | none => true) && o.op.operands.toList.all zar
theorem qgZ {n i : Nat} {o : Oper} (h : yO ops n = true) (ho : ops[i]? = some o) (t : Nat) (ht : o.dst = some t) : t < n := by
 have hm : o ∈ ops.toList := List.mem_of_getElem? (by simpa using ho)
 have := List.all_eq_true.1 h o hm
 simp only [Bool.and_eq_true, ht, decide_eq_true_eq] at this
 exact this.1
theorem qph {n i : Nat} {o : Oper} (h : yO ops n = true) (ho : ops[i]? = some o) (x : Operand) (hx : x ∈ o.op.operands) : zar x = true := by
 have hm : o ∈ ops.toList := List.mem_of_getElem? (by simpa using ho)
 have := List.all_eq_true.1 h o hm
 simp only [Bool.and_eq_true] at this
 exact List.all_eq_true.1 this.2 x (by simpa using hx)
theorem qix {p : Addr → Prop} {w : World} {env : Env} {a : Act} {o : Oper} {n i : Nat} (h : yO ops n = true) (ho : ops[i]? = some o) (hr : ∀ t ∈ o.looksAt ops, ∀ d, lk env t = some d → Rep p w d (a.tmps.getD t Go.undef)) : ∀ x ∈ o.op.operands, ∀ d, ev env x = some d → Rep p w d (a.eval x) := fun x hx d hd => by
 have hok := qph h ho x hx
 cases x with
 | tmp t =>
  refine hr t ?_ d hd
  exact List.mem_append_left _ (List.mem_filterMap.2 ⟨.tmp t, by simpa using hx, rfl⟩)
 | const v => exact qlg hd hok
 | func f =>
  injection hd with hd
  subst hd
  simp only [Rep]
  exact ⟨[], [], rfl, zz.nil _ _, zz.nil _ _⟩
 | global g => cases hd
def Good (K : Ctx) (n : Nat) (m : Md) (env : Env) (σ : St) (a : Act) (w : World) : Prop := ∃ p, Inv K p σ w ∧ zK p w env a ∧ n ≤ a.tmps.size ∧ a.defers = m.marks
theorem qia (a : Act) (dst : Option Tmp) (v : Value) : (a.put dst v).tmps.size = a.tmps.size := by cases dst <;> simp [Act.put]
theorem qo4 {F : Fence} {n : Nat} {P : Program} {o : Oper} {a : Act} {r : Result Next} {N N' : Act → World → Prop} {Q Q' : Exit → Act → World → Prop} (hn : ∀ a' w', N a' w' → N' a' w') (hq : ∀ e a' w', Q e a' w' → Q' e a' w') (h : o.uponIn F n P a N Q r) : o.uponIn F n P a N' Q' r := by
 unfold Oper.uponIn at h ⊢
 split at h
 · exact hn _ _ h
 · exact hn _ _ h
 · exact hn _ _ h
 · refine ⟨h.1, CallsIn.mono h.2 fun e w' hh => ?_⟩
   cases e with
   | returned v => exact hn _ _ hh
   | panicked c => exact hq _ _ _ hh
   | outgrown => obtain ⟨a₀, w₀, hh⟩ := hh; exact ⟨a₀, w₀, hq _ _ _ hh⟩
 · exact ⟨h.1, RowsIn.mono h.2 fun v w' hh => hn _ _ hh⟩
 · refine ⟨h.1, RoundIn.mono h.2 fun e w' hh => ?_⟩
   cases e with
   | returned v => exact hn _ _ hh
   | panicked c => exact hq _ _ _ hh
   | outgrown => obtain ⟨a₀, w₀, hh⟩ := hh; exact ⟨a₀, w₀, hq _ _ _ hh⟩
 · exact hq _ _ _ h
 · exact h.elim
theorem qhB {F : Fence} {n : Nat} {P : Program} {o : Oper} {a : Act} {w : World} {N N' : Act → World → Prop} {Q Q' : Exit → Act → World → Prop} (hn : ∀ a' w', N a' w' → N' a' w') (hq : ∀ e a' w', Q e a' w' → Q' e a' w') (h : o.wpIn F n P a w N Q) : o.wpIn F n P a w N' Q' :=
 ⟨h.1, qo4 hn hq h.2⟩
theorem qlz {n : Nat} {K : Ctx} {m : Md} {X : Env → D → St → Prop} {Q : Env → St → Prop} (hX : ∀ e d τ, X e d τ → m.rd = none) (hok : yO ops n = true) : ∀ (l : List (Nat × Cls)) (env : Env) (σ : St) (a : Act) (w : World), Run P ops X Q l env σ → Good K n m env σ a w →
 wpOpsIn (fw m.rd) 0 P ops (zaX P K n m X Q) (l.map (·.1)) a w
 | [], env, σ, a, w, h, ⟨p, h1, h2, h3, h4⟩ => .inl ⟨rfl, env, σ, p, h, h1, h2, h3, h4⟩
 | (i, c) :: l, env, σ, a, w, h, ⟨p, h1, h2, h3, h4⟩ => by
  obtain ⟨o, ho, h⟩ := h
  simp only [List.map_cons, wpOpsIn, ho]
  rcases h with ⟨hw, h⟩ | ⟨hw, h⟩ | ⟨hw, e₀, d, τ, he₀, hx, h, _⟩
  rotate_right
  · have := qdz (a := a) (p := p) (w := w) (fun t _ d ht => h2 t d ht) hw
    rw [this]
    simp only [if_true]
    have hst := h K p a w h1 (qix hok ho fun t _ d ht => h2 t d ht)
    rw [hX e₀ d τ hx]
    exact qhB (fun a' w' hh => hh.elim) (fun e a' w' hh => by
     obtain ⟨v, p', rfl, rfl, hv, hi, hg⟩ := hh
     exact .inr ⟨v, d, τ, p', e₀, rfl, hx, hv, hi, fun t d' ht => (h2.grow hg) t d' (by rw [← he₀ t]; exact ht), h4⟩) (qkc hst)
  · have := qdz (a := a) (p := p) (w := w) (fun t _ d ht => h2 t d ht) hw
    rw [this]
    simp only [Bool.false_eq_true, if_false]
    exact ⟨fun f _ => qkW _ f, qlz hX hok l _ σ _ w h ⟨p, h1, h2.put (by simp only [Rep]) fun t ht => Nat.lt_of_lt_of_le (qgZ hok ho t ht) h3, by rw [qia]; exact h3, by rw [qeu]; exact h4⟩⟩
  · have := qdz (a := a) (p := p) (w := w) (fun t _ d ht => h2 t d ht) hw
    rw [this]
    simp only [if_true]
    have key : ∃ R, zas P o (ev env) σ R ∧ ∀ d σ', R d σ' → Run P ops X Q l (env.put o.dst d) σ' := by
     cases c with
     | d => obtain ⟨d, hs, hk⟩ := h; exact ⟨_, (hs σ).y, fun d' σ' ⟨e1, e2⟩ => e1 ▸ e2 ▸ hk⟩
     | r => obtain ⟨d, hs, hk⟩ := h; exact ⟨_, hs.y, fun d' σ' ⟨e1, e2⟩ => e1 ▸ e2 ▸ hk⟩
     | w => exact h
     | x => exact h
    obtain ⟨R, hs, hk⟩ := key
    have hst := hs m.rd K p a w h1 (qix hok ho fun t _ d ht => h2 t d ht)
    refine qhB (fun a' w' hh => ?_) (fun _ _ _ hh => hh.elim) hst
    obtain ⟨v, d, σ', p', rfl, hR, hv, hi, hg⟩ := hh
    exact qlz hX hok l _ σ' _ w' (hk d σ' hR) ⟨p', hi, (h2.grow hg).put hv fun t ht => Nat.lt_of_lt_of_le (qgZ hok ho t ht) h3, by rw [qia]; exact h3, by rw [qeu]; exact h4⟩
theorem qtE {f : FuncId} {fn : Func} {K : Ctx} {R : D → St → Prop} {k : List Item} {env : Env} {σ : St} {id : Nat} {l : List Oper} (hok : yO l.toArray fn.ntmps = true) (ord : List (Nat × Cls)) (ho : ord.map (·.1) = List.range l.length)
 (h : Run P l.toArray (fun _ => K.X) (Goes P f fn K R k) ord env σ) : Goes P f fn K R (.code (.region id l.toArray false) :: k) env σ :=
 qiQ (Q := Goes P f fn K R k) (X := fun _ => K.X) (fun p a w hi hr hn hd => by
  refine wpIn_region ?_
  have := qlz (K := K) (m := Md.top) (fun _ _ _ _ => rfl) hok ord env σ a w h ⟨p, hi, hr, hn, hd⟩
  rw [ho] at this
  simpa using this) (fun _ _ _ h => ⟨h, rfl⟩) (fun _ _ h => h)
def ix : Nat → List Cls → List (Nat × Cls)
 | _, [] => []
 | n, c :: cs => (n, c) :: ix (n + 1) cs
theorem gr {f : FuncId} {fn : Func} {K : Ctx} {R : D → St → Prop} {k : List Item} {env : Env} {σ : St} {id : Nat} {l : List Oper} (cs : List Cls) (h : Run P l.toArray (fun _ => K.X) (Goes P f fn K R k) (ix 0 cs) env σ) (hok : yO l.toArray fn.ntmps = true := by kernel_rfl) (ho : (ix 0 cs).map (·.1) = List.range l.length := by rfl) : Goes P f fn K R (.code (.region id l.toArray false) :: k) env σ := qtE hok (ix 0 cs) ho h
theorem qhI {m : Md} {f : FuncId} {fn : Func} {K : Ctx} {R : D → St → Prop} {k : List Item} {env : Env} {σ : St} {id : Nat} {l : List Oper} (hok : yO l.toArray fn.ntmps = true) (ord : List (Nat × Cls)) (ho : ord.map (·.1) = List.range l.length)
 (h : Run P l.toArray NX (zg m P f fn K R k) ord env σ) : zg m P f fn K R (.code (.region id l.toArray false) :: k) env σ :=
 qiQ (Q := zg m P f fn K R k) (X := NX) (fun p a w hi hr hn hd => by
  refine wpIn_region ?_
  have := qlz (K := K) (m := m) (X := NX) (fun _ _ _ h => h.elim) hok ord env σ a w h ⟨p, hi, hr, hn, hd⟩
  rw [ho] at this
  simpa using this) (fun _ _ _ h => h.elim) (fun _ _ h => h)
end
structure PE where
 i : Nat
 c : Cls
 o : Oper
 E : Env
 V : D
def zG (T : Nat → Bool) (env : Env) (l : List PE) : Env := l.foldl (fun E e => if T e.i then E.put e.o.dst e.V else E) env
abbrev yk (env : Env) (l : List PE) : Env := zG (fun _ => true) env l
theorem qeA (env : Env) (dst : Option Tmp) (d : D) (s : Nat) : lk (env.put dst d) s = if dst = some s then some d else lk env s := by
 cases dst with
 | none => simp [Env.put]
 | some t => simp only [Env.put, qfj, Option.some.injEq]
theorem qgs (T : Nat → Bool) (env : Env) (l m : List PE) : zG T env (l ++ m) = zG T (zG T env l) m := by simp [zG]
theorem qgl {T : Nat → Bool} {t : Nat} : ∀ {l : List PE} {E : Env}, (∀ e ∈ l, T e.i = true → e.o.dst ≠ some t) → lk (zG T E l) t = lk E t
 | [], _, _ => rfl
 | e :: l, E, h => by
  have h1 := qgl (T := T) (t := t) (l := l) (E := if T e.i then E.put e.o.dst e.V else E) fun e' he' => h e' (List.mem_cons_of_mem _ he')
  simp only [zG, List.foldl_cons] at h1 ⊢
  rw [h1]
  split
  · rename_i hT
    rw [qeA, if_neg (h e (List.mem_cons_self ..) hT)]
  · rfl
theorem qi5 {T : Nat → Bool} {t : Nat} : ∀ {l : List PE} {E E' : Env}, (∀ e ∈ l, e.o.dst = some t → T e.i = true) → lk E t = lk E' t → lk (zG T E l) t = lk (yk E' l) t
 | [], _, _, _, h0 => h0
 | e :: l, E, E', h, h0 => by
  simp only [zG, List.foldl_cons]
  refine qi5 (l := l) (fun e' he' => h e' (List.mem_cons_of_mem _ he')) ?_
  simp only [if_true]
  by_cases hd : e.o.dst = some t
  · rw [h e (List.mem_cons_self ..) hd]
    simp [qeA, hd]
  · rw [qeA, if_neg hd]
    split
    · rw [qeA, if_neg hd]; exact h0
    · exact h0
theorem qez {T T' : Nat → Bool} : ∀ {l : List PE} {E : Env}, (∀ e ∈ l, T e.i = T' e.i) → zG T E l = zG T' E l
 | [], _, _ => rfl
 | e :: l, E, h => by
  simp only [zG, List.foldl_cons]
  rw [h e (List.mem_cons_self ..)]
  exact qez (l := l) fun e' he' => h e' (List.mem_cons_of_mem _ he')
/-! ### what is checked by looking -/
section
variable {P : Program} {ops : Array Oper}
def zaS (ops : Array Oper) (r M : Array Nat) : Bool := (List.range ops.size).all fun k => (List.range ops.size).all fun j => !(M.getD k 0).testBit j || (match ops[k]? with
 | some o => o.after.any fun e => Region.binds .any e && decide (r.getD e.on 0 < r.getD k 0 ∧ e.on < ops.size) && (e.on == j || (M.getD e.on 0).testBit j)
 | none => false)
def zbA (ops : Array Oper) (r : Array Nat) : Bool := (List.range ops.size).all fun k => match ops[k]? with
 | some o => o.after.all fun e => !Region.binds .any e || decide (r.getD e.on 0 < r.getD k 0 ∧ e.on < ops.size)
 | none => true
def za7 (n : Nat) (ord : List Nat) : Array Nat := (ord.foldl (fun (x : Array Nat × Nat) i => (x.1.setIfInBounds i x.2, x.2 + 1)) (Array.replicate n 0, 0)).1
def yx (ops : Array Oper) (ord : List Nat) : Array Nat := ord.foldl (fun M i => match ops[i]? with
 | some o => M.setIfInBounds i (o.after.foldl (fun m e => if Region.binds .any e then m ||| (1 <<< e.on) ||| M.getD e.on 0 else m) 0)
 | none => M) (Array.replicate ops.size 0)
def yo (ops : Array Oper) (j k : Nat) : Bool := match ops[j]?, ops[k]? with
 | some x, some y => x.apart ops y
 | _, _ => false
def z7 (ops : Array Oper) (M : Array Nat) (x y : Nat × Cls) : Bool := (M.getD y.1 0).testBit x.1 || (!x.2.isW && !(x.2 == .r && y.2.isW) && yo ops x.1 y.1)
def yr : List (Nat × Cls) → Option Nat
 | [] => none
 | y :: l => if y.2.isW then some y.1 else yr l
theorem qld : ∀ {l : List (Nat × Cls)} {j : Nat}, yr l = some j → ∃ c, (j, c) ∈ l
 | [], _, h => by cases h
 | y :: l, j, h => by
  unfold yr at h
  split at h
  · injection h with h
    exact ⟨y.2, by rw [← h]; exact List.mem_cons_self ..⟩
  · obtain ⟨c, hc⟩ := qld h
    exact ⟨c, List.mem_cons_of_mem _ hc⟩
def zbo (M : Array Nat) (l : List (Nat × Cls)) : List (Nat × Cls) := match yr l with
 | some j => l.filter fun y => !(y.1 == j || (M.getD y.1 0).testBit j)
 | none => l
def yf (ops : Array Oper) (M : Array Nat) : List (Nat × Cls) → Bool
 | [] => true
 | x :: l => (match x.2 with | .x => zbo M l | _ => l).all (fun y => z7 ops M x y) && yf ops M l
def y7 (n : Nat) (ord : List (Nat × Cls)) : Bool := (List.range n).all (fun i => ord.any fun x => x.1 == i) && ord.all (fun x => decide (x.1 < n)) && decide (ord.map (·.1)).Nodup
def yT (ops : Array Oper) (ord : List (Nat × Cls)) : Bool := zaS ops (za7 ops.size (ord.map (·.1))) (yx ops (ord.map (·.1))) && zbA ops (za7 ops.size (ord.map (·.1))) && yf ops (yx ops (ord.map (·.1))) ord && y7 ops.size ord
def Tof (listed : Array Bool) (i : Nat) : Bool := listed.getD i false
def Down (ops : Array Oper) (listed : Array Bool) : Prop := ∀ k o, ops[k]? = some o → Tof listed k = true → ∀ e ∈ o.after, Region.binds .any e = true → Tof listed e.on = true
theorem qkO {r M : Array Nat} {listed : Array Bool} (hM : zaS ops r M = true) (hd : Down ops listed) : ∀ (n : Nat) (k : Nat) (o : Oper), r.getD k 0 = n → ops[k]? = some o → (∀ e ∈ o.after, Region.binds .any e = true → Tof listed e.on = true) → ∀ j, j < ops.size → (M.getD k 0).testBit j = true → Tof listed j = true := by
 intro n
 induction n using Nat.strongRecOn with
 | _ n ih =>
  intro k o hn ho hall j hj hb
  have hk : k < ops.size := (Array.getElem?_eq_some_iff.1 ho).1
  have h1 := List.all_eq_true.1 (List.all_eq_true.1 hM k (by simpa using hk)) j (by simpa using hj)
  rw [hb] at h1
  simp only [Bool.not_true, Bool.false_or, ho] at h1
  obtain ⟨e, he, h2⟩ := Array.any_eq_true'.1 h1
  simp only [Bool.and_eq_true, decide_eq_true_eq, Bool.or_eq_true, beq_iff_eq] at h2
  obtain ⟨⟨h3, h4, h4'⟩, h5⟩ := h2
  have hl := hall e he h3
  rcases h5 with rfl | h5
  · exact hl
  · obtain ⟨o', ho'⟩ : ∃ o', ops[e.on]? = some o' := ⟨ops[e.on]'h4', Array.getElem?_eq_getElem h4'⟩
    exact ih (r.getD e.on 0) (by omega) e.on o' rfl ho' (hd e.on o' ho' hl) j hj h5
theorem qeE {M : Array Nat} : ∀ {l m : List (Nat × Cls)} {x y : Nat × Cls}, yf ops M (l ++ x :: m) = true → x.2 ≠ .x → y ∈ m → z7 ops M x y = true
 | [], m, x, y, h, hx, hy => by
  simp only [List.nil_append, yf, Bool.and_eq_true] at h
  obtain ⟨i, c⟩ := x
  cases c with
  | x => exact absurd rfl hx
  | d => exact List.all_eq_true.1 h.1 y hy
  | r => exact List.all_eq_true.1 h.1 y hy
  | w => exact List.all_eq_true.1 h.1 y hy
 | z :: l, m, x, y, h, hx, hy => by
  simp only [List.cons_append, yf, Bool.and_eq_true] at h
  exact qeE h.2 hx hy
theorem qkh {M : Array Nat} : ∀ {l m : List (Nat × Cls)} {i : Nat} {y : Nat × Cls}, yf ops M (l ++ (i, .x) :: m) = true → y ∈ m → (∀ j, yr m = some j → y.1 ≠ j ∧ (M.getD y.1 0).testBit j = false) → z7 ops M (i, .x) y = true
 | [], m, i, y, h, hy, hj => by
  simp only [List.nil_append, yf, Bool.and_eq_true] at h
  refine List.all_eq_true.1 h.1 y ?_
  unfold zbo
  split
  · rename_i j hf
    obtain ⟨h1, h2⟩ := hj j hf
    exact List.mem_filter.2 ⟨hy, by rw [h2]; simpa using h1⟩
  · exact hy
 | z' :: l, m, i, y, h, hy, hj => by
  simp only [List.cons_append, yf, Bool.and_eq_true] at h
  exact qkh h.2 hy hj
end
def zax (P : Program) (ops : Array Oper) (σ : St) (e : PE) : Prop :=
 (yJ ops e.E e.o = some false ∧ e.V = .undef) ∨ (yJ ops e.E e.o = some true ∧ ((e.c = .d ∧ zu P e.o (ev e.E) e.V) ∨ (e.c = .r ∧ zt P e.o (ev e.E) σ fun d' σ' => d' = e.V ∧ σ' = σ)))
section
variable {P : Program} {ops : Array Oper} {Q : Env → St → Prop}
theorem zaU {X : Env → D → St → Prop} (env0 : Env) (σ : St) : ∀ (l : List (Nat × Cls)) (E : Env), Run P ops X Q l E σ → ∃ (new : List PE) (l' : List (Nat × Cls)), l = new.map (fun e => (e.i, e.c)) ++ l' ∧ Run P ops X Q l' (yk E new) σ ∧
 (∀ d1 e d2, new = d1 ++ e :: d2 → e.E = yk E d1 ∧ ops[e.i]? = some e.o ∧ zax P ops σ e ∧ e.c.isW = false) ∧ (l' = [] ∨ ∃ i c l'', l' = (i, c) :: l'' ∧ c.isW = true)
 | [], E, h => ⟨[], [], rfl, h, fun d1 e d2 hh => by simp at hh, .inl rfl⟩
 | (i, c) :: l, E, h => by
  have h0 := h
  obtain ⟨o, ho, h⟩ := h
  cases hc : c.isW with
  | true => exact ⟨[], (i, c) :: l, rfl, h0, fun d1 e d2 hh => by simp at hh, .inr ⟨i, c, l, rfl, hc⟩⟩
  | false =>
   have key : ∃ V, zax P ops σ ⟨i, c, o, E, V⟩ ∧ Run P ops X Q l (E.put o.dst V) σ := by
    rcases h with ⟨hw, h⟩ | ⟨hw, h⟩ | ⟨_, _, _, _, _, _, _, hq⟩
    · exact ⟨.undef, .inl ⟨hw, rfl⟩, h⟩
    rotate_left
    · rw [hc] at hq
      cases hq
    · cases c with
      | d => obtain ⟨d, hs, hk⟩ := h; exact ⟨d, .inr ⟨hw, .inl ⟨rfl, hs⟩⟩, hk⟩
      | r => obtain ⟨d, hs, hk⟩ := h; exact ⟨d, .inr ⟨hw, .inr ⟨rfl, hs⟩⟩, hk⟩
      | w => cases hc
      | x => cases hc
   obtain ⟨V, hp, hk⟩ := key
   obtain ⟨new, l', h1, h2, h3, h4⟩ := zaU env0 σ l _ hk
   refine ⟨⟨i, c, o, E, V⟩ :: new, l', by simp [h1], by simpa [zG] using h2, fun d1 e d2 hh => ?_, h4⟩
   cases d1 with
   | nil =>
    simp only [List.nil_append, List.cons.injEq] at hh
    obtain ⟨rfl, _⟩ := hh
    exact ⟨rfl, ho, hp, hc⟩
   | cons x d1 =>
    simp only [List.cons_append, List.cons.injEq] at hh
    obtain ⟨rfl, hh⟩ := hh
    obtain ⟨h5, h6⟩ := h3 d1 e d2 hh
    exact ⟨by rw [h5]; simp [zG], h6⟩
end
section
variable {P : Program} {ops : Array Oper} {Q : Env → St → Prop}
theorem qhb {M : Array Nat} {x y : Nat × Cls} (h : z7 ops M x y = true) (hb : (M.getD y.1 0).testBit x.1 = false) : x.2.isW = false ∧ ¬(x.2 = .r ∧ y.2.isW = true) ∧ yo ops x.1 y.1 = true := by
 unfold z7 at h
 rw [hb] at h
 simp only [Bool.false_or, Bool.and_eq_true, Bool.not_eq_true', Bool.and_eq_false_imp, beq_iff_eq] at h
 refine ⟨h.1.1, fun hh => ?_, h.2⟩
 have := h.1.2 hh.1
 rw [hh.2] at this
 cases this
theorem qcC {listed : Array Bool} {i : Nat} (hi : i < listed.size) (j : Nat) : Tof (listed.setIfInBounds i true) j = if j = i then true else Tof listed j := by
 unfold Tof
 by_cases h : j = i
 · subst h; simp [hi]
 · rw [if_neg h, Array.getD_eq_getD_getElem?, Array.getD_eq_getD_getElem?, Array.getElem?_setIfInBounds_ne (Ne.symm h)]
structure Mid (P : Program) (ops : Array Oper) (X : Env → D → St → Prop) (Q : Env → St → Prop) (K : Ctx) (n : Nat) (m : Md) (T : List (List (Nat × Cls))) (env0 : Env) (done : List PE) (l : List (Nat × Cls)) (listed : Array Bool) (σ : St) (a : Act) (w : World) : Prop where
 ok : ∀ t ∈ T, yT ops (done.map (fun e => (e.i, e.c)) ++ (l ++ t)) = true
 nonem : ∃ t, t ∈ T
 chain : ∀ d1 e d2, done = d1 ++ e :: d2 → e.E = yk env0 d1 ∧ ops[e.i]? = some e.o ∧ (Tof listed e.i = false → zax P ops σ e ∧ e.c.isW = false)
 rest : Run P ops X (fun e s => ∀ t ∈ T, Run P ops X Q t e s) l (yk env0 done) σ
 head : l = [] ∨ ∃ i c l', l = (i, c) :: l' ∧ c.isW = true
 thead : ∀ t ∈ T, t = [] ∨ ∃ i c t', t = (i, c) :: t' ∧ c.isW = true
 tpair : ∀ t ∈ T, ∀ i t' j, t = (i, .x) :: t' → yr t' = some j → ∃ t2 ∈ T, ∃ t2', t2 = (j, .x) :: t2'
 lx : ∀ x ∈ l, x.2 ≠ .x
 tx : ∀ t ∈ T, ∀ x ∈ t.tail, x.2 ≠ .x
 new : ∀ x ∈ l, Tof listed x.1 = false
 tnew : ∀ t ∈ T, ∀ x ∈ t, Tof listed x.1 = false
 down : Down ops listed
 size : listed.size = ops.size
 good : Good K n m (zG (Tof listed) env0 done) σ a w
def left (ord : List (Nat × Cls)) (listed : Array Bool) : Nat := (ord.filter fun x => !Tof listed x.1).length
theorem qow {ord : List (Nat × Cls)} {listed : Array Bool} {i : Nat} {c : Cls} (hn : (ord.map (·.1)).Nodup) (hm : (i, c) ∈ ord) (hi : i < listed.size) (hf : Tof listed i = false) : left ord (listed.setIfInBounds i true) + 1 = left ord listed := by
 unfold left
 induction ord with
 | nil => cases hm
 | cons x ord ih =>
  simp only [List.map_cons, List.nodup_cons] at hn
  by_cases hx : x.1 = i
  · have hno : ∀ y ∈ ord, y.1 ≠ i := fun y hy e => hn.1 (by rw [hx, ← e]; exact List.mem_map_of_mem hy)
    have e1 : ord.filter (fun x => !Tof (listed.setIfInBounds i true) x.1) = ord.filter (fun x => !Tof listed x.1) := List.filter_congr fun y hy => by rw [qcC hi, if_neg (hno y hy)]
    rw [List.filter_cons, List.filter_cons, hx, qcC hi, if_pos rfl, hf, e1]
    simp
  · have hm' : (i, c) ∈ ord := by
     rcases List.mem_cons.1 hm with h | h
     · exact absurd (by rw [← h]) hx
     · exact h
    have := ih hn.2 hm'
    rw [List.filter_cons, List.filter_cons, qcC hi, if_neg hx]
    split
    · simp only [List.length_cons]; omega
    · exact this
def yy (n : Nat) (listed : Array Bool) : Nat := left ((List.range n).map fun i => (i, Cls.d)) listed
theorem qsx {X : Env → D → St → Prop} {n : Nat} {md : Md} (hX : ∀ e d τ, X e d τ → X [] d τ ∧ md.rd = none) {K : Ctx} {env0 : Env} (hok : yO ops n = true) :
 ∀ (fuel : Nat) (T : List (List (Nat × Cls))) (done : List PE) (l : List (Nat × Cls)) (listed : Array Bool) (σ : St) (a : Act) (w : World), Mid P ops X Q K n md T env0 done l listed σ a w → yy ops.size listed = fuel →
  wpAnyIn (fw md.rd) 0 P .any ops (zaX P K n md X Q) fuel listed a w := by
 intro fuel
 induction fuel with
 | zero =>
  intro T done l listed σ a w m h0
  obtain ⟨t0, ht0⟩ := m.nonem
  have hA := m.ok t0 ht0
  obtain ⟨ord, hord⟩ : ∃ ord, ord = done.map (fun e => (e.i, e.c)) ++ (l ++ t0) := ⟨_, rfl⟩
  rw [← hord] at hA
  have hall0 : done.map (fun e => (e.i, e.c)) ++ (l ++ t0) = ord := hord.symm
  simp only [yT, Bool.and_eq_true] at hA
  obtain ⟨⟨⟨hM, hL⟩, hP⟩, hI⟩ := hA
  simp only [y7, Bool.and_eq_true, decide_eq_true_eq] at hI
  obtain ⟨⟨hI1, hI2⟩, hnd⟩ := hI
  have hin : ∀ i, i < ops.size → ∃ c, (i, c) ∈ ord := fun i hi => by
   obtain ⟨x, hx, he⟩ := List.any_eq_true.1 (List.all_eq_true.1 hI1 i (by simpa using hi))
   exact ⟨x.2, by rw [← (beq_iff_eq.1 he)]; exact hx⟩
  have hlt : ∀ x ∈ ord, x.1 < ops.size := fun x hx => by simpa using List.all_eq_true.1 hI2 x hx
  have hall : ∀ x ∈ ord, Tof listed x.1 = true := fun x hx => by
   cases hT : Tof listed x.1 with
   | true => rfl
   | false =>
    have : (x.1, Cls.d) ∈ ((List.range ops.size).map fun i => (i, Cls.d)).filter fun x => !Tof listed x.1 := List.mem_filter.2 ⟨List.mem_map.2 ⟨x.1, by simpa using hlt x hx, rfl⟩, by simp [hT]⟩
    have := List.length_pos_of_mem this
    unfold yy left at h0
    omega
  refine ⟨?_, .inl ⟨rfl, ?_⟩⟩
  · refine List.eq_nil_iff_forall_not_mem.2 fun i hi => ?_
    obtain ⟨hun, o, ho, _⟩ := mem_ready.1 hi
    have hi' := (Array.getElem?_eq_some_iff.1 ho).1
    obtain ⟨c, hc⟩ := hin i hi'
    have := hall _ hc
    unfold Tof at this
    have hs : i < listed.size := by rw [m.size]; exact hi'
    simp [hs] at this hun
    rw [this] at hun
    cases hun
  · have hl : l = [] := by
     rcases m.head with h | ⟨i, c, l', h, _⟩
     · exact h
     · have hm : (i, c) ∈ l := by rw [h]; simp
       have h1 := m.new _ hm
       rw [hall _ (by rw [← hall0]; exact List.mem_append_right _ (List.mem_append_left _ hm))] at h1
       cases h1
    have ht : t0 = [] := by
     rcases m.thead t0 ht0 with h | ⟨i, c, l', h, _⟩
     · exact h
     · have hm : (i, c) ∈ t0 := by rw [h]; simp
       have h1 := m.tnew t0 ht0 _ hm
       rw [hall _ (by rw [← hall0]; exact List.mem_append_right _ (List.mem_append_right _ hm))] at h1
       cases h1
    obtain ⟨p, g1, g2, g3, g4⟩ := m.good
    have hr := m.rest
    rw [hl] at hr
    have hr := hr t0 ht0
    rw [ht] at hr
    have he : zG (Tof listed) env0 done = yk env0 done := qez fun e he => hall (e.i, e.c) (by rw [← hall0]; exact List.mem_append_left _ (List.mem_map_of_mem he))
    exact ⟨_, σ, p, hr, g1, he ▸ g2, g3, g4⟩
 | succ fuel ih =>
  intro T done l listed σ a w m h0
  obtain ⟨t0, ht0⟩ := m.nonem
  have hA := m.ok t0 ht0
  obtain ⟨ord, hord⟩ : ∃ ord, ord = done.map (fun e => (e.i, e.c)) ++ (l ++ t0) := ⟨_, rfl⟩
  rw [← hord] at hA
  have hall0 : done.map (fun e => (e.i, e.c)) ++ (l ++ t0) = ord := hord.symm
  simp only [yT, Bool.and_eq_true] at hA
  obtain ⟨⟨⟨hM, hL⟩, hP⟩, hI⟩ := hA
  simp only [y7, Bool.and_eq_true, decide_eq_true_eq] at hI
  obtain ⟨⟨hI1, hI2⟩, hnd⟩ := hI
  have hin : ∀ i, i < ops.size → ∃ c, (i, c) ∈ ord := fun i hi => by
   obtain ⟨x, hx, he⟩ := List.any_eq_true.1 (List.all_eq_true.1 hI1 i (by simpa using hi))
   exact ⟨x.2, by rw [← (beq_iff_eq.1 he)]; exact hx⟩
  have hlt : ∀ x ∈ ord, x.1 < ops.size := fun x hx => by simpa using List.all_eq_true.1 hI2 x hx
  obtain ⟨p, g1, g2, g3, g4⟩ := m.good
  have hmask := fun k o ho hall j hj => qkO (ops := ops) hM m.down _ k o rfl ho hall j hj
  refine ⟨fun hnone => ?_, fun i hi => ?_⟩
  · exfalso
    -- one that has not come up, the first of them
    have hex : ∃ i, i < ops.size ∧ Tof listed i = false := by
     have : 0 < yy ops.size listed := by omega
     unfold yy left at this
     obtain ⟨x, hx⟩ := List.exists_mem_of_length_pos this
     obtain ⟨hx1, hx2⟩ := List.mem_filter.1 hx
     obtain ⟨y, hy, rfl⟩ := List.mem_map.1 hx1
     exact ⟨y, by simpa using hy, by simpa using hx2⟩
    obtain ⟨i, hi1, hi2⟩ := hex
    have : ∀ n k, (za7 ops.size (ord.map (·.1))).getD k 0 = n → k < ops.size → Tof listed k = false → False := by
     intro n
     induction n using Nat.strongRecOn with
     | _ n ihk =>
      intro k hkn hk1 hk2
      have hr : k ∈ Region.ready .any ops listed := by
       refine mem_ready.2 ⟨?_, ops[k], Array.getElem?_eq_getElem hk1, fun e he hb => ?_⟩
       · have hs : k < listed.size := by rw [m.size]; exact hk1
         unfold Tof at hk2
         simp [hs] at hk2 ⊢
         exact hk2
       · cases hT : Tof listed e.on with
         | true => exact hT
         | false =>
          have hl := List.all_eq_true.1 hL k (by simpa using hk1)
          simp only [Array.getElem?_eq_getElem hk1] at hl
          have := (Array.all_eq_true_iff_forall_mem.1 hl) e he
          simp only [hb, Bool.not_true, Bool.false_or, decide_eq_true_eq] at this
          exact (ihk _ (by rw [← hkn]; exact this.1) e.on rfl this.2 hT).elim
      rw [hnone] at hr
      cases hr
    exact this _ i rfl hi1 hi2
  · obtain ⟨hun, o, ho, hdeps⟩ := mem_ready.1 hi
    have hi' := (Array.getElem?_eq_some_iff.1 ho).1
    have hs : i < listed.size := by rw [m.size]; exact hi'
    have hT : Tof listed i = false := by
     unfold Tof
     simp [hs] at hun ⊢
     exact hun
    obtain ⟨c, hc⟩ := hin i hi'
    have hdown : Down ops (listed.setIfInBounds i true) := fun k o' ho' hk e he hb => by
     rw [qcC hs] at hk ⊢
     split
     · rfl
     · by_cases hki : k = i
       · subst hki
         rw [ho] at ho'
         injection ho' with ho'
         subst ho'
         exact hdeps e he hb
       · rw [if_neg hki] at hk
         exact m.down k o' ho' hk e he hb
    have hleft := qow (ord := (List.range ops.size).map fun i => (i, Cls.d)) (c := Cls.d) (by rw [List.map_map]; have : (Prod.fst ∘ fun i : Nat => (i, Cls.d)) = id := rfl; rw [this, List.map_id]; exact List.nodup_range) (List.mem_map.2 ⟨i, by simpa using hi', rfl⟩) hs hT
    -- who must have come up, who cannot have
    have before : ∀ x y : Nat × Cls, x.1 < ops.size → z7 ops (yx ops (ord.map (·.1))) x y = true → y.1 = i → Tof listed x.1 = false → x.2.isW = false ∧ ¬(x.2 = .r ∧ y.2.isW = true) ∧ yo ops x.1 y.1 = true := fun x y hx hp hy hf => qhb hp (by
     cases hb : ((yx ops (ord.map (·.1))).getD y.1 0).testBit x.1 with
     | false => rfl
     | true =>
      rw [hy] at hb
      rw [hmask i o ho hdeps x.1 hx hb] at hf
      cases hf)
    have behind : ∀ x y : Nat × Cls, y.1 < ops.size → z7 ops (yx ops (ord.map (·.1))) x y = true → x.1 = i → Tof listed y.1 = true → x.2.isW = false ∧ ¬(x.2 = .r ∧ y.2.isW = true) ∧ yo ops x.1 y.1 = true := fun x y hy hp hx ht => qhb hp (by
     cases hb : ((yx ops (ord.map (·.1))).getD y.1 0).testBit x.1 with
     | false => rfl
     | true =>
      have h1 := hmask y.1 _ (Array.getElem?_eq_getElem hy) (m.down y.1 _ (Array.getElem?_eq_getElem hy) ht) x.1 (by rw [hx]; exact hi') hb
      rw [hx, hT] at h1
      cases h1)
    have apartL : ∀ {j k : Nat} {x y : Oper}, yo ops j k = true → ops[j]? = some x → ops[k]? = some y → x.apart ops y = true := fun {j k x y} h hx hy => by
     unfold yo at h
     rw [hx, hy] at h
     exact h
    rw [← hall0] at hc
    rcases List.mem_append.1 hc with hc' | hc'
    · -- it is pending
      obtain ⟨e, he, hec⟩ := List.mem_map.1 hc'
      obtain ⟨d1, d2, hsplit⟩ := List.append_of_mem he
      obtain rfl : e.i = i := congrArg Prod.fst hec
      obtain ⟨hE, heo, hpend⟩ := m.chain d1 e d2 hsplit
      obtain ⟨hp, hcw⟩ := hpend hT
      have heq : e.o = o := by rw [heo] at ho; injection ho
      have hunl : ∀ x ∈ done, Tof listed x.i = false → x.c ≠ .x := fun x hx hf e => by
       obtain ⟨u1, u2, hu⟩ := List.append_of_mem hx
       have := ((m.chain u1 x u2 hu).2.2 hf).2
       rw [e] at this
       cases this
      have hpair1 : ∀ x ∈ d1, Tof listed x.i = false → z7 ops (yx ops (ord.map (·.1))) (x.i, x.c) (e.i, e.c) = true := fun x hx hf => by
       obtain ⟨u1, u2, hu⟩ := List.append_of_mem hx
       have : yf ops (yx ops (ord.map (·.1))) ((u1.map fun e => (e.i, e.c)) ++ (x.i, x.c) :: ((u2.map fun e => (e.i, e.c)) ++ (e.i, e.c) :: ((d2.map fun e => (e.i, e.c)) ++ (l ++ t0)))) = true := by
        rw [← hP, ← hall0, hsplit, hu]; simp
       exact qeE this (hunl x (by rw [hsplit]; exact List.mem_append_left _ hx) hf) (by simp)
      have hpair2 : ∀ x ∈ d2, z7 ops (yx ops (ord.map (·.1))) (e.i, e.c) (x.i, x.c) = true := fun x hx => by
       have : yf ops (yx ops (ord.map (·.1))) ((d1.map fun e => (e.i, e.c)) ++ (e.i, e.c) :: ((d2.map fun e => (e.i, e.c)) ++ (l ++ t0))) = true := by
        rw [← hP, ← hall0, hsplit]; simp
       exact qeE this (fun h => by have := hcw; simp only at h; rw [h] at this; cases this) (List.mem_append_left _ (List.mem_map_of_mem hx))
      have hmemlt : ∀ x ∈ done, x.i < ops.size ∧ ops[x.i]? = some x.o := fun x hx => by
       obtain ⟨u1, u2, hu⟩ := List.append_of_mem hx
       have := (m.chain u1 x u2 hu).2.1
       exact ⟨(Array.getElem?_eq_some_iff.1 this).1, this⟩
      have hin1 : ∀ x ∈ d1, x ∈ done := fun x hx => by rw [hsplit]; exact List.mem_append_left _ hx
      have hin2 : ∀ x ∈ d2, x ∈ done := fun x hx => by rw [hsplit]; exact List.mem_append_right _ (List.mem_cons_of_mem _ hx)
      have hlook : ∀ t ∈ o.looksAt ops, lk (zG (Tof listed) env0 done) t = lk e.E t := fun t ht => by
       rw [hsplit, qgs]
       have hcons : zG (Tof listed) (zG (Tof listed) env0 d1) (e :: d2) = zG (Tof listed) (zG (Tof listed) env0 d1) d2 := by simp [zG, hT]
       rw [hcons, qgl, hE]
       · refine qi5 (fun x hx hd => ?_) rfl
         cases hf : Tof listed x.i with
         | true => rfl
         | false =>
          have := (before (x.i, x.c) (e.i, e.c) (hmemlt x (hin1 x hx)).1 (hpair1 x hx hf) rfl hf).2.2
          have h5 := apartL this (hmemlt x (hin1 x hx)).2 ho
          exact absurd ht ((Oper.apart_spec h5).1 t hd)
       · intro x hx hf hd
         have := (behind (e.i, e.c) (x.i, x.c) (hmemlt x (hin2 x hx)).1 (hpair2 x hx) rfl hf).2.2
         have h5 := apartL this ho (hmemlt x (hin2 x hx)).2
         exact (Oper.apart_spec h5).2.2 t hd ht
      have hrep : ∀ t ∈ o.looksAt ops, ∀ d, lk e.E t = some d → Rep p w d (a.tmps.getD t Go.undef) := fun t ht d hd => g2 t d (by rw [hlook t ht]; exact hd)
      have hput : ∀ t, lk (zG (Tof (listed.setIfInBounds e.i true)) env0 done) t = lk ((zG (Tof listed) env0 done).put o.dst e.V) t := fun t => by
       have hne1 : ∀ x ∈ d1, x.i ≠ e.i := fun x hx hxe => by
        rw [← hall0, hsplit] at hnd
        simp only [List.map_append, List.map_cons, List.map_map] at hnd
        have := List.nodup_append.1 (List.nodup_append.1 hnd).1
        exact this.2.2 _ (List.mem_map_of_mem hx) _ (List.mem_cons_self ..) hxe
       have hne2 : ∀ x ∈ d2, x.i ≠ e.i := fun x hx hxe => by
        rw [← hall0, hsplit] at hnd
        simp only [List.map_append, List.map_cons, List.map_map] at hnd
        have := (List.nodup_append.1 (List.nodup_append.1 hnd).1).2.1
        simp only [List.nodup_cons] at this
        exact this.1 (List.mem_map.2 ⟨x, hx, hxe⟩)
       have e1 : zG (Tof (listed.setIfInBounds e.i true)) env0 done = zG (Tof listed) ((zG (Tof listed) env0 d1).put o.dst e.V) d2 := by
        rw [hsplit, qgs, qez (T := Tof (listed.setIfInBounds e.i true)) (T' := Tof listed) (l := d1) fun x hx => by rw [qcC hs, if_neg (hne1 x hx)]]
        have : zG (Tof (listed.setIfInBounds e.i true)) (zG (Tof listed) env0 d1) (e :: d2) = zG (Tof (listed.setIfInBounds e.i true)) ((zG (Tof listed) env0 d1).put o.dst e.V) d2 := by
         simp [zG, qcC hs, heq]
        rw [this]
        exact qez fun x hx => by rw [qcC hs, if_neg (hne2 x hx)]
       have e2 : zG (Tof listed) env0 done = zG (Tof listed) (zG (Tof listed) env0 d1) d2 := by
        rw [hsplit, qgs]; simp [zG, hT]
       rw [e1, e2, qeA]
       by_cases hd : o.dst = some t
       · rw [if_pos hd, qgl, qeA, if_pos hd]
         intro x hx hf hxd
         have := (behind (e.i, e.c) (x.i, x.c) (hmemlt x (hin2 x hx)).1 (hpair2 x hx) rfl hf).2.2
         have h5 := apartL this ho (hmemlt x (hin2 x hx)).2
         exact (Oper.apart_spec h5).2.1 t hd hxd
       · rw [if_neg hd]
         have gen : ∀ (m : List PE) (A B : Env), lk A t = lk B t → lk (zG (Tof listed) A m) t = lk (zG (Tof listed) B m) t := by
          intro m
          induction m with
          | nil => exact fun A B h => h
          | cons x m ihm =>
           intro A B h
           simp only [zG, List.foldl_cons]
           refine ihm _ _ ?_
           split
           · simp only [qeA]; split <;> simp [h]
           · exact h
         exact gen d2 _ _ (by rw [qeA, if_neg hd])
      have next : ∀ (a' : Act) (w' : World) (p' : Addr → Prop) (v : Value), a' = a.put o.dst v → Rep p' w' e.V v → Inv K p' σ w' → zM p w p' w' → Mid P ops X Q K n md T env0 done l (listed.setIfInBounds e.i true) σ a' w' := fun a' w' p' v ha' hv hi2 hg => by
       have hnin : ∀ t ∈ T, ∀ x ∈ l ++ t, x.1 ≠ e.i := fun t ht x hx hxe => by
        have hk := m.ok t ht
        simp only [yT, Bool.and_eq_true, y7, decide_eq_true_eq] at hk
        have hnd := hk.2.2
        rw [List.map_append, List.map_map] at hnd
        exact (List.nodup_append.1 hnd).2.2 _ (List.mem_map_of_mem he) _ (List.mem_map_of_mem hx) hxe.symm
       refine ⟨m.ok, m.nonem, fun u1 x u2 hu => ?_, m.rest, m.head, m.thead, m.tpair, m.lx, m.tx, fun x hx => ?_, fun t ht x hx => ?_, hdown, by simpa using m.size, ⟨p', hi2, fun t d ht => ?_, ?_, ?_⟩⟩
       · obtain ⟨q1, q2, q3⟩ := m.chain u1 x u2 hu
         refine ⟨q1, q2, fun hf => q3 ?_⟩
         rw [qcC hs] at hf
         split at hf
         · cases hf
         · exact hf
       · rw [qcC hs, if_neg (hnin t0 ht0 x (List.mem_append_left _ hx)), m.new x hx]
       · rw [qcC hs, if_neg (hnin t ht x (List.mem_append_right _ hx)), m.tnew t ht x hx]
       · rw [hput t] at ht
         have hr' := (g2.grow hg).put (dst := o.dst) hv fun t ht => Nat.lt_of_lt_of_le (qgZ hok ho t ht) g3
         rw [ha']
         exact hr' t d ht
       · rw [ha', qia]; exact g3
       · rw [ha', qeu]; exact g4
      unfold wpOpIn
      simp only [ho]
      have hlf : yy ops.size (listed.setIfInBounds e.i true) = fuel := by unfold yy at h0 ⊢; omega
      rcases hp with ⟨hw, hV⟩ | ⟨hw, hp⟩
      · rw [heq] at hw
        rw [qdz hrep hw]
        simp only [Bool.false_eq_true, if_false]
        exact ⟨fun f _ => qkW _ f, ih _ _ _ _ _ _ _ (next _ w p Go.undef rfl (by rw [hV]; simp only [Rep]) g1 (zM.refl p w)) hlf⟩
      · rw [heq] at hw
        rw [qdz hrep hw]
        simp only [if_true]
        have hst : zt P o (ev e.E) σ fun d' σ' => d' = e.V ∧ σ' = σ := by
         rw [← heq]
         rcases hp with ⟨_, hp⟩ | ⟨_, hp⟩
         · exact hp σ
         · exact hp
        refine qhB (fun a' w' hh => ?_) (fun _ _ _ hh => hh.elim) (hst.y md.rd K p a w g1 (qix hok ho hrep))
        obtain ⟨v, d, σ', p', ha', ⟨rfl, rfl⟩, hv, hi2, hg⟩ := hh
        exact ih _ _ _ _ _ _ _ (next a' w' p' v ha' hv hi2 hg) hlf
    · -- it is the next one of our order
      obtain ⟨T', ci, lrest, hW, hT'ok, hT'some, hT'run, hT'head, hT'pair, hT'lx, hT'tx, hT'new, hT'tnew⟩ : ∃ (T' : List (List (Nat × Cls))) (ci : Cls) (lrest : List (Nat × Cls)), ci.isW = true ∧ (∀ t ∈ T', yT ops (done.map (fun e => (e.i, e.c)) ++ ((i, ci) :: lrest ++ t)) = true) ∧ (∃ t, t ∈ T') ∧ Run P ops X (fun e s => ∀ t ∈ T', Run P ops X Q t e s) ((i, ci) :: lrest) (yk env0 done) σ ∧ (∀ t ∈ T', t = [] ∨ ∃ i c t', t = (i, c) :: t' ∧ c.isW = true) ∧ (∀ t ∈ T', ∀ i t' j, t = (i, .x) :: t' → yr t' = some j → ∃ t2 ∈ T', ∃ t2', t2 = (j, .x) :: t2') ∧ (∀ x ∈ lrest, x.2 ≠ .x) ∧ (∀ t ∈ T', ∀ x ∈ t.tail, x.2 ≠ .x) ∧ (∀ x ∈ lrest, Tof listed x.1 = false) ∧ (∀ t ∈ T', ∀ x ∈ t, Tof listed x.1 = false) := by
       rcases m.head with hl | ⟨i0, c0, l', hl, hc0⟩
       · -- one of the ends
         subst hl
         have hend : ∀ t ∈ T, ∀ ci t', t = (i, ci) :: t' → ci.isW = true → ∃ (T' : List (List (Nat × Cls))) (ci : Cls) (lrest : List (Nat × Cls)), ci.isW = true ∧ (∀ t ∈ T', yT ops (done.map (fun e => (e.i, e.c)) ++ ((i, ci) :: lrest ++ t)) = true) ∧ (∃ t, t ∈ T') ∧ Run P ops X (fun e s => ∀ t ∈ T', Run P ops X Q t e s) ((i, ci) :: lrest) (yk env0 done) σ ∧ (∀ t ∈ T', t = [] ∨ ∃ i c t', t = (i, c) :: t' ∧ c.isW = true) ∧ (∀ t ∈ T', ∀ i t' j, t = (i, .x) :: t' → yr t' = some j → ∃ t2 ∈ T', ∃ t2', t2 = (j, .x) :: t2') ∧ (∀ x ∈ lrest, x.2 ≠ .x) ∧ (∀ t ∈ T', ∀ x ∈ t.tail, x.2 ≠ .x) ∧ (∀ x ∈ lrest, Tof listed x.1 = false) ∧ (∀ t ∈ T', ∀ x ∈ t, Tof listed x.1 = false) := fun t ht ci t' he hW => by
          subst he
          refine ⟨[[]], ci, t', hW, fun u hu => ?_, ⟨[], List.mem_singleton.2 rfl⟩, qgn (fun e s h u hu => by rw [List.mem_singleton.1 hu]; exact h) _ _ _ (m.rest _ ht), fun u hu => .inl (List.mem_singleton.1 hu), fun u hu i t'' j h _ => (by rw [List.mem_singleton.1 hu] at h; cases h), m.tx _ ht, fun u hu x hx => (by rw [List.mem_singleton.1 hu] at hx; cases hx), fun x hx => m.tnew _ ht x (List.mem_cons_of_mem _ hx), fun u hu x hx => (by rw [List.mem_singleton.1 hu] at hx; cases hx)⟩
          rw [List.mem_singleton.1 hu, List.append_nil]
          exact m.ok _ ht
         rcases m.thead t0 ht0 with ht | ⟨i0, c0, t0', ht, hc0⟩
         · rw [ht] at hc'; cases hc'
         · by_cases hii : i = i0
           · subst hii
             exact hend t0 ht0 c0 t0' ht hc0
           · rw [List.nil_append, ht] at hc'
             rcases List.mem_cons.1 hc' with h | h
             · exact absurd (congrArg Prod.fst h) hii
             · have hx0 : i0 < ops.size := hlt (i0, c0) (by rw [← hall0, ht]; simp)
               have hf0 : Tof listed i0 = false := m.tnew t0 ht0 (i0, c0) (by rw [ht]; simp)
               have hP' : yf ops (yx ops (ord.map (·.1))) ((done.map fun e => (e.i, e.c)) ++ (i0, c0) :: t0') = true := by
                rw [← hP, ← hall0, ht]; simp
               have habs : z7 ops (yx ops (ord.map (·.1))) (i0, c0) (i, c) = true → False := fun hp => by
                have := (before (i0, c0) (i, c) hx0 hp rfl hf0).1
                simp only at this
                rw [hc0] at this
                cases this
               by_cases hcx : c0 = .x
               · subst hcx
                 cases hfw : yr t0' with
                 | none => exact (habs (qkh hP' h fun j hj => by rw [hfw] at hj; cases hj)).elim
                 | some j =>
                  by_cases hij : i = j
                  · subst hij
                    obtain ⟨t2, ht2, t2', h2⟩ := m.tpair t0 ht0 i0 t0' i ht hfw
                    exact hend t2 ht2 .x t2' h2 rfl
                  · obtain ⟨cj, hcj⟩ := qld hfw
                    have hjm : (j, cj) ∈ t0 := by rw [ht]; exact List.mem_cons_of_mem _ hcj
                    have hjf : Tof listed j = false := m.tnew t0 ht0 (j, cj) hjm
                    have hjlt : j < ops.size := hlt (j, cj) (by rw [← hall0]; exact List.mem_append_right _ (List.mem_append_right _ hjm))
                    cases hb : ((yx ops (ord.map (·.1))).getD i 0).testBit j with
                    | true =>
                     rw [hmask i o ho hdeps j hjlt hb] at hjf
                     cases hjf
                    | false => exact (habs (qkh hP' h fun j' hj' => by
                     rw [hfw] at hj'
                     injection hj' with hj'
                     subst hj'
                     exact ⟨hij, hb⟩)).elim
               · exact (habs (qeE hP' hcx h)).elim
       · subst hl
         have hii : i = i0 := by
          rcases List.mem_cons.1 (by simpa using hc' : (i, c) ∈ (i0, c0) :: (l' ++ t0)) with h | h
          · exact congrArg Prod.fst h
          · exfalso
            have hx0 : i0 < ops.size := hlt (i0, c0) (by rw [← hall0]; simp)
            have hP' : yf ops (yx ops (ord.map (·.1))) ((done.map fun e => (e.i, e.c)) ++ (i0, c0) :: (l' ++ t0)) = true := by
             rw [← hP, ← hall0]; simp
            have hp := qeE hP' (m.lx (i0, c0) (List.mem_cons_self ..)) h
            have := (before (i0, c0) (i, c) hx0 hp rfl (m.new (i0, c0) (List.mem_cons_self ..))).1
            simp only at this
            rw [hc0] at this
            cases this
         subst hii
         exact ⟨T, c0, l', hc0, m.ok, m.nonem, m.rest, m.thead, m.tpair, fun x hx => m.lx x (List.mem_cons_of_mem _ hx), m.tx, fun x hx => m.new x (List.mem_cons_of_mem _ hx), m.tnew⟩
      clear hc hc'
      obtain ⟨t1, ht1⟩ := hT'some
      have hA1 := hT'ok t1 ht1
      obtain ⟨ord, hord⟩ : ∃ ord, ord = done.map (fun e => (e.i, e.c)) ++ ((i, ci) :: lrest ++ t1) := ⟨_, rfl⟩
      rw [← hord] at hA1
      have hall0 : done.map (fun e => (e.i, e.c)) ++ ((i, ci) :: lrest ++ t1) = ord := hord.symm
      simp only [yT, Bool.and_eq_true] at hA1
      obtain ⟨⟨⟨hM, hL⟩, hP⟩, hI⟩ := hA1
      simp only [y7, Bool.and_eq_true, decide_eq_true_eq] at hI
      obtain ⟨⟨hI1, hI2⟩, hnd⟩ := hI
      have hin : ∀ i, i < ops.size → ∃ c, (i, c) ∈ ord := fun i hi => by
       obtain ⟨x, hx, he⟩ := List.any_eq_true.1 (List.all_eq_true.1 hI1 i (by simpa using hi))
       exact ⟨x.2, by rw [← (beq_iff_eq.1 he)]; exact hx⟩
      have hlt : ∀ x ∈ ord, x.1 < ops.size := fun x hx => by simpa using List.all_eq_true.1 hI2 x hx
      have hmask := fun k o ho hall j hj => qkO (ops := ops) hM m.down _ k o rfl ho hall j hj
      have before : ∀ x y : Nat × Cls, x.1 < ops.size → z7 ops (yx ops (ord.map (·.1))) x y = true → y.1 = i → Tof listed x.1 = false → x.2.isW = false ∧ ¬(x.2 = .r ∧ y.2.isW = true) ∧ yo ops x.1 y.1 = true := fun x y hx hp hy hf => qhb hp (by
       cases hb : ((yx ops (ord.map (·.1))).getD y.1 0).testBit x.1 with
       | false => rfl
       | true =>
        rw [hy] at hb
        rw [hmask i o ho hdeps x.1 hx hb] at hf
        cases hf)
      have hunl : ∀ x ∈ done, Tof listed x.i = false → x.c ≠ .x := fun x hx hf e => by
       obtain ⟨u1, u2, hu⟩ := List.append_of_mem hx
       have := ((m.chain u1 x u2 hu).2.2 hf).2
       rw [e] at this
       cases this
      have hpair : ∀ x ∈ done, Tof listed x.i = false → z7 ops (yx ops (ord.map (·.1))) (x.i, x.c) (i, ci) = true := fun x hx hf => by
       obtain ⟨u1, u2, hu⟩ := List.append_of_mem hx
       have : yf ops (yx ops (ord.map (·.1))) ((u1.map fun e => (e.i, e.c)) ++ (x.i, x.c) :: ((u2.map fun e => (e.i, e.c)) ++ (i, ci) :: (lrest ++ t1))) = true := by
        rw [← hP, ← hall0, hu]; simp
       exact qeE this (hunl x hx hf) (by simp)
      have hmemlt : ∀ x ∈ done, x.i < ops.size ∧ ops[x.i]? = some x.o := fun x hx => by
       obtain ⟨u1, u2, hu⟩ := List.append_of_mem hx
       have := (m.chain u1 x u2 hu).2.1
       exact ⟨(Array.getElem?_eq_some_iff.1 this).1, this⟩
      have hne : ∀ x ∈ done, x.i ≠ i := fun x hx hxe => by
       rw [← hall0] at hnd
       simp only [List.map_append, List.map_map, List.map_cons, List.cons_append] at hnd
       exact (List.nodup_append.1 hnd).2.2 _ (List.mem_map_of_mem hx) _ (List.mem_cons_self ..) hxe
      have hlook : ∀ t ∈ o.looksAt ops, lk (zG (Tof listed) env0 done) t = lk (yk env0 done) t := fun t ht =>
       qi5 (fun x hx hd => by
        cases hf : Tof listed x.i with
        | true => rfl
        | false =>
         have := (before (x.i, x.c) (i, ci) (hmemlt x hx).1 (hpair x hx hf) rfl hf).2.2
         have h5 := apartL this (hmemlt x hx).2 ho
         exact absurd ht ((Oper.apart_spec h5).1 t hd)) rfl
      have hrep : ∀ t ∈ o.looksAt ops, ∀ d, lk (yk env0 done) t = some d → Rep p w d (a.tmps.getD t Go.undef) := fun t ht d hd => g2 t d (by rw [hlook t ht]; exact hd)
      have next : ∀ (a' : Act) (w' : World) (p' : Addr → Prop) (v : Value) (V : D) (σ' : St), a' = a.put o.dst v → Rep p' w' V v → Inv K p' σ' w' → zM p w p' w' → Run P ops X (fun e s => ∀ t ∈ T', Run P ops X Q t e s) lrest ((yk env0 done).put o.dst V) σ' →
       ∃ done' l'', Mid P ops X Q K n md T' env0 done' l'' (listed.setIfInBounds i true) σ' a' w' := fun a' w' p' v V σ' ha' hv hi2 hg hrun => by
       obtain ⟨new, l'', h1, h2, h3, h4⟩ := zaU env0 σ' lrest _ hrun
       have heA : yk env0 (done ++ [⟨i, ci, o, yk env0 done, V⟩]) = (yk env0 done).put o.dst V := by simp [zG]
       have hndT : ∀ t ∈ T', (done.map (fun e => e.i) ++ i :: (new.map (fun e => e.i) ++ (l''.map (·.1) ++ t.map (·.1)))).Nodup := fun t ht => by
        have hk := hT'ok t ht
        simp only [yT, Bool.and_eq_true, y7, decide_eq_true_eq] at hk
        have := hk.2.2
        rw [h1] at this
        simpa [List.map_map, Function.comp_def] using this
       have hnd' := hndT t1 ht1
       have hnd2 := List.nodup_append.1 hnd'
       have hnd3 := List.nodup_cons.1 hnd2.2.1
       refine ⟨done ++ ⟨i, ci, o, yk env0 done, V⟩ :: new, l'', ⟨fun t ht => by have := hT'ok t ht; rw [h1] at this; simpa using this, ⟨t1, ht1⟩, fun u1 x u2 hu => ?_, ?_, h4, hT'head, hT'pair, fun x hx => hT'lx x (by rw [h1]; exact List.mem_append_right _ hx), hT'tx, fun x hx => ?_, fun t ht x hx => ?_, hdown, by simpa using m.size, ⟨p', hi2, fun t d ht => ?_, ?_, ?_⟩⟩⟩
       · -- the chain
         rcases List.append_eq_append_iff.1 hu with ⟨v1, hv1, hv2⟩ | ⟨v1, hv1, hv2⟩
         · cases v1 with
           | nil =>
            simp only [List.nil_append, List.cons.injEq] at hv2
            obtain ⟨rfl, rfl⟩ := hv2
            simp only [List.append_nil] at hv1
            subst hv1
            exact ⟨rfl, ho, fun hf => by rw [qcC hs, if_pos rfl] at hf; cases hf⟩
           | cons y v1 =>
            simp only [List.cons_append, List.cons.injEq] at hv2
            obtain ⟨rfl, hv2⟩ := hv2
            obtain ⟨q1, q2, q3, q4⟩ := h3 v1 x u2 hv2
            refine ⟨?_, q2, fun _ => ⟨q3, q4⟩⟩
            rw [q1, hv1]
            simp [zG]
         · cases v1 with
           | nil =>
            simp only [List.nil_append, List.cons.injEq] at hv2
            obtain ⟨rfl, rfl⟩ := hv2
            simp only [List.append_nil] at hv1
            subst hv1
            exact ⟨rfl, ho, fun hf => by rw [qcC hs, if_pos rfl] at hf; cases hf⟩
           | cons y v1 =>
            simp only [List.cons_append, List.cons.injEq] at hv2
            obtain ⟨rfl, hv2⟩ := hv2
            have hxin : x ∈ done := by rw [hv1]; simp
            obtain ⟨q1, q2, q3⟩ := m.chain u1 x v1 hv1
            refine ⟨q1, q2, fun hf => ?_⟩
            rw [qcC hs, if_neg (hne x hxin)] at hf
            obtain ⟨q4, q5⟩ := q3 hf
            refine ⟨?_, q5⟩
            have hnr := (before (x.i, x.c) (i, ci) (hmemlt x hxin).1 (hpair x hxin hf) rfl hf).2.1
            rcases q4 with q4 | ⟨q4, q6⟩
            · exact .inl q4
            · refine .inr ⟨q4, ?_⟩
              rcases q6 with q6 | ⟨q6, _⟩
              · exact .inl q6
              · exact absurd ⟨q6, hW⟩ hnr
       · have hee : yk env0 (done ++ (⟨i, ci, o, yk env0 done, V⟩ : PE) :: new) = yk ((yk env0 done).put o.dst V) new := by
          rw [← heA]
          simp [zG]
         rw [hee]
         exact h2
       · have hxi : x.1 ≠ i := fun e => hnd3.1 (by rw [← e]; exact List.mem_append_right _ (List.mem_append_left _ (List.mem_map_of_mem hx)))
         rw [qcC hs, if_neg hxi]
         exact hT'new x (by rw [h1]; exact List.mem_append_right _ hx)
       · have hxi : x.1 ≠ i := fun e => (List.nodup_cons.1 (List.nodup_append.1 (hndT t ht)).2.1).1 (by rw [← e]; exact List.mem_append_right _ (List.mem_append_right _ (List.mem_map_of_mem hx)))
         rw [qcC hs, if_neg hxi]
         exact hT'tnew t ht x hx
       · have hT' : ∀ x ∈ done, Tof (listed.setIfInBounds i true) x.i = Tof listed x.i := fun x hx => by rw [qcC hs, if_neg (hne x hx)]
         have hnewf : ∀ x ∈ new, Tof (listed.setIfInBounds i true) x.i = false := fun x hx => by
          have hxi : x.i ≠ i := fun e => hnd3.1 (by rw [← e]; exact List.mem_append_left _ (List.mem_map_of_mem hx))
          rw [qcC hs, if_neg hxi]
          exact hT'new (x.i, x.c) (by rw [h1]; exact List.mem_append_left _ (List.mem_map_of_mem hx))
         rw [qgs, qez hT'] at ht
         have hcons : zG (Tof (listed.setIfInBounds i true)) (zG (Tof listed) env0 done) (⟨i, ci, o, yk env0 done, V⟩ :: new) = zG (Tof (listed.setIfInBounds i true)) ((zG (Tof listed) env0 done).put o.dst V) new := by simp [zG, qcC hs]
         rw [hcons, qgl (fun x hx hf => by rw [hnewf x hx] at hf; cases hf)] at ht
         have hr' := (g2.grow hg).put (dst := o.dst) hv fun t ht => Nat.lt_of_lt_of_le (qgZ hok ho t ht) g3
         rw [ha']
         exact hr' t d ht
       · rw [ha', qia]; exact g3
       · rw [ha', qeu]; exact g4
      have hlf : yy ops.size (listed.setIfInBounds i true) = fuel := by unfold yy at h0 ⊢; omega
      unfold wpOpIn
      simp only [ho]
      obtain ⟨o', ho', hrun⟩ := hT'run
      obtain rfl : o' = o := by rw [ho] at ho'; injection ho' with h; exact h.symm
      have hrun : (yJ ops (yk env0 done) o' = some false ∧ Run P ops X (fun e s => ∀ t ∈ T', Run P ops X Q t e s) lrest ((yk env0 done).put o'.dst .undef) σ) ∨ (yJ ops (yk env0 done) o' = some true ∧ ∃ R, zas P o' (ev (yk env0 done)) σ R ∧ ∀ d σ', R d σ' → Run P ops X (fun e s => ∀ t ∈ T', Run P ops X Q t e s) lrest ((yk env0 done).put o'.dst d) σ') ∨ (yJ ops (yk env0 done) o' = some true ∧ ∃ e d τ, X e d τ ∧ DieT P o' (ev (yk env0 done)) σ τ d) := by
       rcases hrun with hrun | hrun | ⟨hw, e, d, τ, _, hx, hdie, _⟩
       · exact .inl hrun
       rotate_left
       · exact .inr (.inr ⟨hw, e, d, τ, hx, hdie⟩)
       refine .inr (.inl ?_)
       cases ci with
       | w => exact hrun
       | x => exact hrun
       | d => cases hW
       | r => cases hW
      rcases hrun with ⟨hw, hk⟩ | ⟨hw, R, hst, hk⟩ | ⟨hw, e₀, d, τ, hx, hdie⟩
      rotate_right
      · rw [qdz hrep hw]
        simp only [if_true]
        obtain ⟨hx', hrd⟩ := hX e₀ d τ hx
        rw [hrd]
        refine qhB (fun a' w' hh => hh.elim) (fun e a' w' hh => ?_) (qkc (hdie K p a w g1 (qix hok ho hrep)))
        obtain ⟨v, p', rfl, rfl, hv, hi2, hg⟩ := hh
        exact .inr ⟨v, d, τ, p', [], rfl, hx', hv, hi2, fun t d' ht => (by cases ht), g4⟩
      · rw [qdz hrep hw]
        simp only [Bool.false_eq_true, if_false]
        obtain ⟨done', l'', hm⟩ := next _ w p Go.undef .undef σ rfl (by simp only [Rep]) g1 (zM.refl p w) hk
        exact ⟨fun f _ => qkW _ f, ih _ _ _ _ _ _ _ hm hlf⟩
      · rw [qdz hrep hw]
        simp only [if_true]
        refine qhB (fun a' w' hh => ?_) (fun _ _ _ hh => hh.elim) (hst md.rd K p a w g1 (qix hok ho hrep))
        obtain ⟨v, d, σ', p', ha', hR, hv, hi2, hg⟩ := hh
        obtain ⟨done', l'', hm⟩ := next a' w' p' v d σ' ha' hv hi2 hg (hk d σ' hR)
        exact ih _ _ _ _ _ _ _ hm hlf
theorem qr9 {X : Env → D → St → Prop} {n : Nat} {md : Md} (hX : ∀ e d τ, X e d τ → X [] d τ ∧ md.rd = none) {K : Ctx} {env : Env} {σ : St} (hok : yO ops n = true) (T : List (List (Nat × Cls))) (ord : List (Nat × Cls)) (hA : ∀ t ∈ T, yT ops (ord ++ t) = true) (hT : ∃ t, t ∈ T) (hh : ∀ t ∈ T, t = [] ∨ ∃ i c t', t = (i, c) :: t' ∧ c.isW = true)
 (hp : ∀ t ∈ T, ∀ i t' j, t = (i, .x) :: t' → yr t' = some j → ∃ t2 ∈ T, ∃ t2', t2 = (j, .x) :: t2') (hx : ∀ x ∈ ord, x.2 ≠ .x) (htx : ∀ t ∈ T, ∀ x ∈ t.tail, x.2 ≠ .x) (h : Run P ops X (fun e s => ∀ t ∈ T, Run P ops X Q t e s) ord env σ)
 {p : Addr → Prop} {a : Act} {w : World} (hi : Inv K p σ w) (hr : zK p w env a) (hn : n ≤ a.tmps.size) (hd : a.defers = md.marks) :
 wpAnyIn (fw md.rd) 0 P .any ops (zaX P K n md X Q) ops.size (Array.replicate ops.size false) a w := by
 obtain ⟨new, l', h1, h2, h3, h4⟩ := zaU (P := P) (Q := fun e s => ∀ t ∈ T, Run P ops X Q t e s) env σ ord env h
 have h0 : ∀ i, Tof (Array.replicate ops.size false) i = false := fun i => by
  unfold Tof
  rw [Array.getD_eq_getD_getElem?, Array.getElem?_replicate]
  split <;> rfl
 have hfuel : yy ops.size (Array.replicate ops.size false) = ops.size := by
  unfold yy left
  rw [List.filter_eq_self.2 fun x _ => by rw [h0]; rfl]
  simp
 refine qsx hX (P := P) (Q := Q) (K := K) (n := n) hok _ T new l' _ σ a w ⟨fun t ht => by have := hA t ht; rw [h1] at this; simpa using this, hT, fun d1 e d2 hh => ?_, h2, h4, hh, hp, fun x hxl => hx x (by rw [h1]; exact List.mem_append_right _ hxl), htx, fun x _ => h0 _, fun t _ x _ => h0 _, fun k' o _ hk => ?_, by simp, ⟨p, hi, ?_, hn, hd⟩⟩ hfuel
 · obtain ⟨q1, q2, q3, q4⟩ := h3 d1 e d2 hh
   exact ⟨q1, q2, fun _ => ⟨q3, q4⟩⟩
 · rw [h0] at hk; cases hk
 · have : zG (Tof (Array.replicate ops.size false)) env new = env := by
    have : ∀ (m : List PE), zG (Tof (Array.replicate ops.size false)) env m = env := by
     intro m
     induction m with
     | nil => rfl
     | cons x m ih => simp only [zG, List.foldl_cons, h0, Bool.false_eq_true, if_false] at ih ⊢; exact ih
    exact this new
   rw [this]
   exact hr
theorem qtR {m : Md} {f : FuncId} {fn : Func} {K : Ctx} {R : D → St → Prop} {k : List Item} {env : Env} {σ : St} {id : Nat} {l : List Oper} (hm : P.follows .mixedOrders = true) (hok : yO l.toArray fn.ntmps = true) (ord : List (Nat × Cls)) (hA : yT l.toArray ord = true)
 (h : Run P l.toArray NX (zg m P f fn K R k) ord env σ) (hx : ord.all (fun x => decide (x.2 ≠ .x)) = true := by rfl) : zg m P f fn K R (.code (.region id l.toArray true) :: k) env σ :=
 qiQ (Q := zg m P f fn K R k) (X := NX) (fun p a w hi hr hn hd => wpIn_region_any hm (qr9 (X := NX) (fun _ _ _ h => h.elim) (md := m) (P := P) (Q := zg m P f fn K R k) (K := K) (n := fn.ntmps) hok [[]] ord (fun t ht => by rw [List.mem_singleton.1 ht, List.append_nil]; exact hA) ⟨[], List.mem_singleton.2 rfl⟩ (fun t ht => .inl (List.mem_singleton.1 ht)) (fun t ht i t' j h _ => by rw [List.mem_singleton.1 ht] at h; cases h) (fun x hm => by simpa using List.all_eq_true.1 hx x hm) (fun t ht x hm => by rw [List.mem_singleton.1 ht] at hm; cases hm)
  (qgn (fun e s h t ht => by rw [List.mem_singleton.1 ht]; exact h) _ _ _ h) hi.drew (hr.grow (qeQ p w)) hn hd)) (fun _ _ _ h => h.elim) (fun _ _ h => h)
theorem ga {m : Md} {f : FuncId} {fn : Func} {K : Ctx} {R : D → St → Prop} {k : List Item} {env : Env} {σ : St} {id : Nat} {l : List Oper} (ord : List (Nat × Cls)) (h : Run P l.toArray NX (zg m P f fn K R k) ord env σ) (hm : P.follows .mixedOrders = true := by kernel_rfl) (hok : yO l.toArray fn.ntmps = true := by kernel_rfl) (hA : yT l.toArray ord = true := by kernel_rfl) (hx : ord.all (fun x => decide (x.2 ≠ .x)) = true := by rfl) : zg m P f fn K R (.code (.region id l.toArray true) :: k) env σ := qtR hm hok ord hA h hx
def za5 : List (Nat × Cls) → List (Nat × Cls) → Bool
 | (i, .x) :: a, (j, .x) :: b => (yr a == some j) && (yr b == some i) && a.all (fun x => decide (x.2 ≠ .x)) && b.all (fun x => decide (x.2 ≠ .x))
 | _, _ => false
def okTwo (ops : Array Oper) (pre tA tB : List (Nat × Cls)) : Bool := yT ops (pre ++ tA) && yT ops (pre ++ tB) && pre.all (fun x => decide (x.2 ≠ .x)) && za5 tA tB
theorem qns {tA tB : List (Nat × Cls)} (h : za5 tA tB = true) : ∃ i a j b, tA = (i, .x) :: a ∧ tB = (j, .x) :: b ∧ yr a = some j ∧ yr b = some i ∧ (∀ x ∈ a, x.2 ≠ .x) ∧ ∀ x ∈ b, x.2 ≠ .x := by
 match tA, tB, h with
 | (i, .x) :: a, (j, .x) :: b, h =>
  simp only [za5, Bool.and_eq_true, beq_iff_eq] at h
  obtain ⟨⟨⟨h1, h2⟩, h3⟩, h4⟩ := h
  exact ⟨i, a, j, b, rfl, rfl, h1, h2, (fun x hx => by simpa using List.all_eq_true.1 h3 x hx), fun x hx => by simpa using List.all_eq_true.1 h4 x hx⟩
theorem qtK {m : Md} {f : FuncId} {fn : Func} {K : Ctx} {R : D → St → Prop} {k : List Item} {env : Env} {σ : St} {id : Nat} {l : List Oper} (hm : P.follows .mixedOrders = true) (hok : yO l.toArray fn.ntmps = true) (pre tA tB : List (Nat × Cls)) (hA : okTwo l.toArray pre tA tB = true) (J : Env → St → Prop)
 (h : Run P l.toArray NX (fun e s => Run P l.toArray NX J tA e s ∧ Run P l.toArray NX J tB e s) pre env σ) (hJ : ∀ e s, J e s → zg m P f fn K R k e s) : zg m P f fn K R (.code (.region id l.toArray true) :: k) env σ := by
 simp only [okTwo, Bool.and_eq_true] at hA
 obtain ⟨⟨⟨h1, h2⟩, h3⟩, h4⟩ := hA
 obtain ⟨i, ta, j, tb, rfl, rfl, e1, e2, e3, e4⟩ := qns h4
 refine qiQ (Q := J) (X := NX) (fun p a w hi hr hn hd => wpIn_region_any hm (qr9 (X := NX) (fun _ _ _ h => h.elim) (md := m) (P := P) (Q := J) (K := K) (n := fn.ntmps) hok [(i, .x) :: ta, (j, .x) :: tb] pre ?_ ⟨_, List.mem_cons_self ..⟩ ?_ ?_ (fun x hm => by simpa using List.all_eq_true.1 h3 x hm) ?_ (qgn (fun e s h t ht => ?_) _ _ _ h) hi.drew (hr.grow (qeQ p w)) hn hd)) (fun _ _ _ h => h.elim) hJ
 · intro t ht
   rcases List.mem_cons.1 ht with rfl | ht
   · exact h1
   · rw [List.mem_singleton.1 ht]; exact h2
 · intro t ht
   rcases List.mem_cons.1 ht with rfl | ht
   · exact .inr ⟨_, _, _, rfl, rfl⟩
   · rw [List.mem_singleton.1 ht]; exact .inr ⟨_, _, _, rfl, rfl⟩
 · intro t ht i' t' j' h hj
   rcases List.mem_cons.1 ht with rfl | ht
   · injection h with _ h6
     subst h6
     rw [e1] at hj
     injection hj with hj
     subst hj
     exact ⟨_, List.mem_cons_of_mem _ (List.mem_singleton.2 rfl), _, rfl⟩
   · rw [List.mem_singleton.1 ht] at h
     injection h with _ h6
     subst h6
     rw [e2] at hj
     injection hj with hj
     subst hj
     exact ⟨_, List.mem_cons_self .., _, rfl⟩
 · intro t ht x hx
   rcases List.mem_cons.1 ht with rfl | ht
   · exact e3 x hx
   · rw [List.mem_singleton.1 ht] at hx
     exact e4 x hx
 · rcases List.mem_cons.1 ht with rfl | ht
   · exact h.1
   · rw [List.mem_singleton.1 ht]; exact h.2
end
section
variable {P : Program} {X : Env → D → St → Prop} {Q : Env → St → Prop} {l : List Oper} {i : Nat} {o : Oper} {t : Nat} {d : D} {env : Env} {σ : St} {rest : List (Nat × Cls)} {c : Cls}
def yw (l : List Oper) (env : Env) (o : Oper) : Option Bool :=
 match o.guard with
 | none => some true
 | some (j, want) =>
  match (l[j]?).bind (·.dst) with
  | none => none
  | some t =>
   match lk env t with
   | some (.bool b) => some (b == want)
   | some .undef => some false
   | _ => none
theorem qhf (l : List Oper) (env : Env) (o : Oper) : yJ l.toArray env o = yw l env o := by
 unfold yJ yw
 simp only [List.getElem?_toArray] <;> rfl
theorem qg (h : Q env σ) : Run P l.toArray X Q [] env σ := h
theorem r_d (hi : l[i]? = some o) (ht : o.dst = some t) (hw : yw l env o = some true) (hs : zu P o (ev env) d) (h : Run P l.toArray X Q rest ((t, d) :: env) σ) : Run P l.toArray X Q ((i, .d) :: rest) env σ :=
 ⟨o, by simpa using hi, .inr (.inl ⟨by rw [qhf]; exact hw, d, hs, by rw [ht]; exact h⟩)⟩
theorem rd (e : (l[i]?, o.dst, yw l env o) = (some o, some t, some true)) (hs : zu P o (ev env) d) (h : Run P l.toArray X Q rest ((t, d) :: env) σ) : Run P l.toArray X Q ((i, .d) :: rest) env σ := by
 injection e with h1 e
 injection e with h2 h3
 exact r_d h1 h2 h3 hs h
theorem r_r (hi : l[i]? = some o) (ht : o.dst = some t) (hw : yw l env o = some true) (hs : zt P o (ev env) σ fun d' σ' => d' = d ∧ σ' = σ) (h : Run P l.toArray X Q rest ((t, d) :: env) σ) : Run P l.toArray X Q ((i, .r) :: rest) env σ :=
 ⟨o, by simpa using hi, .inr (.inl ⟨by rw [qhf]; exact hw, d, hs, by rw [ht]; exact h⟩)⟩
theorem er (e : (l[i]?, o.dst, yw l env o) = (some o, some t, some true)) (hs : zt P o (ev env) σ fun d' σ' => d' = d ∧ σ' = σ) (h : Run P l.toArray X Q rest ((t, d) :: env) σ) : Run P l.toArray X Q ((i, .r) :: rest) env σ := by
 injection e with h1 e
 injection e with h2 h3
 exact r_r h1 h2 h3 hs h
theorem r_w {R : D → St → Prop} (hi : l[i]? = some o) (ht : o.dst = some t) (hw : yw l env o = some true) (hs : zt P o (ev env) σ R) (h : ∀ d σ', R d σ' → Run P l.toArray X Q rest ((t, d) :: env) σ') : Run P l.toArray X Q ((i, .w) :: rest) env σ :=
 ⟨o, by simpa using hi, .inr (.inl ⟨by rw [qhf]; exact hw, R, hs.y, fun d σ' hR => by rw [ht]; exact h d σ' hR⟩)⟩
theorem ew {R : D → St → Prop} (e : (l[i]?, o.dst, yw l env o) = (some o, some t, some true)) (hs : zt P o (ev env) σ R) (h : ∀ d σ', R d σ' → Run P l.toArray X Q rest ((t, d) :: env) σ') : Run P l.toArray X Q ((i, .w) :: rest) env σ := by
 injection e with h1 e
 injection e with h2 h3
 exact r_w h1 h2 h3 hs h
theorem r_w0 {R : D → St → Prop} (hi : l[i]? = some o) (ht : o.dst = none) (hw : yw l env o = some true) (hs : zt P o (ev env) σ R) (h : ∀ d σ', R d σ' → Run P l.toArray X Q rest env σ') : Run P l.toArray X Q ((i, .w) :: rest) env σ :=
 ⟨o, by simpa using hi, .inr (.inl ⟨by rw [qhf]; exact hw, R, hs.y, fun d σ' hR => by rw [ht]; exact h d σ' hR⟩)⟩
theorem r_y {R : D → St → Prop} (hi : l[i]? = some o) (ht : o.dst = some t) (hw : yw l env o = some true) (hs : zas P o (ev env) σ R) (h : ∀ d σ', R d σ' → Run P l.toArray X Q rest ((t, d) :: env) σ') : Run P l.toArray X Q ((i, .w) :: rest) env σ :=
 ⟨o, by simpa using hi, .inr (.inl ⟨by rw [qhf]; exact hw, R, hs, fun d σ' hR => by rw [ht]; exact h d σ' hR⟩)⟩
theorem qR {o' : List Ob} (hi : l[i]? = some o) (ht : o.dst = none) (hw : yw l env o = some true) (hs : zt P o (ev env) σ fun _ σ' => σ' = o') (h : Run P l.toArray X Q rest env o') : Run P l.toArray X Q ((i, .w) :: rest) env σ :=
 r_w0 hi ht hw hs fun _ _ e2 => e2 ▸ h
theorem eqR {o' : List Ob} (e : (l[i]?, o.dst, yw l env o) = (some o, none, some true)) (hs : zt P o (ev env) σ fun _ σ' => σ' = o') (h : Run P l.toArray X Q rest env o') : Run P l.toArray X Q ((i, .w) :: rest) env σ := by
 injection e with h1 e
 injection e with h2 h3
 exact qR h1 h2 h3 hs h
theorem r_x {R : D → St → Prop} (hi : l[i]? = some o) (ht : o.dst = some t) (hw : yw l env o = some true) (hs : zt P o (ev env) σ R) (h : ∀ d σ', R d σ' → Run P l.toArray X Q rest ((t, d) :: env) σ') : Run P l.toArray X Q ((i, .x) :: rest) env σ :=
 ⟨o, by simpa using hi, .inr (.inl ⟨by rw [qhf]; exact hw, R, hs.y, fun d σ' hR => by rw [ht]; exact h d σ' hR⟩)⟩
theorem r_wr (hi : l[i]? = some o) (ht : o.dst = some t) (hw : yw l env o = some true) (hs : zt P o (ev env) σ fun d' σ' => d' = d ∧ σ' = σ) (h : Run P l.toArray X Q rest ((t, d) :: env) σ) : Run P l.toArray X Q ((i, .w) :: rest) env σ :=
 r_w hi ht hw hs fun _ _ ⟨e1, e2⟩ => e1 ▸ e2 ▸ h
theorem ewr (e : (l[i]?, o.dst, yw l env o) = (some o, some t, some true)) (hs : zt P o (ev env) σ fun d' σ' => d' = d ∧ σ' = σ) (h : Run P l.toArray X Q rest ((t, d) :: env) σ) : Run P l.toArray X Q ((i, .w) :: rest) env σ := by
 injection e with h1 e
 injection e with h2 h3
 exact r_wr h1 h2 h3 hs h
theorem r_xr (hi : l[i]? = some o) (ht : o.dst = some t) (hw : yw l env o = some true) (hs : zt P o (ev env) σ fun d' σ' => d' = d ∧ σ' = σ) (h : Run P l.toArray X Q rest ((t, d) :: env) σ) : Run P l.toArray X Q ((i, .x) :: rest) env σ :=
 r_x hi ht hw hs fun _ _ ⟨e1, e2⟩ => e1 ▸ e2 ▸ h
theorem qh (hi : l[i]? = some o) (ht : o.dst = some t) (hw : yw l env o = some false) (h : Run P l.toArray X Q rest ((t, .undef) :: env) σ) : Run P l.toArray X Q ((i, c) :: rest) env σ :=
 ⟨o, by simpa using hi, .inl ⟨by rw [qhf]; exact hw, by rw [ht]; exact h⟩⟩
theorem rh (e : (l[i]?, o.dst, yw l env o) = (some o, some t, some false)) (h : Run P l.toArray X Q rest ((t, .undef) :: env) σ) : Run P l.toArray X Q ((i, c) :: rest) env σ := by
 injection e with h1 e
 injection e with h2 h3
 exact qh h1 h2 h3 h
theorem qqC {P : Program} {Q : Env → St → Prop} {l : List Oper} : ∀ (rest : List (Nat × Cls)) (env env' : Env) (σ : St), (∀ t, lk env t = lk env' t) → Run P l.toArray X Q rest env σ → (∀ e e' : Env, ∀ σ, (∀ t, lk e t = lk e' t) → Q e σ → Q e' σ) → Run P l.toArray X Q rest env' σ := by
 intro rest
 induction rest with
 | nil => exact fun env env' σ he h hq => hq env env' σ he h
 | cons x rest ih =>
  obtain ⟨i, c⟩ := x
  intro env env' σ he h hq
  obtain ⟨o, ho, h⟩ := h
  have hwe : yJ l.toArray env' o = yJ l.toArray env o := by
   unfold yJ
   split
   · rfl
   · split
     · rfl
     · rw [he]
  have hee : ev env' = ev env := by
   funext x
   cases x <;> simp [ev, he]
  have hput : ∀ d, ∀ t, lk (env.put o.dst d) t = lk (env'.put o.dst d) t := fun d t => by simp only [qeA, he]
  refine ⟨o, ho, ?_⟩
  rw [hwe, hee]
  rcases h with ⟨hw, h⟩ | ⟨hw, h⟩ | h
  · exact .inl ⟨hw, ih _ _ _ (hput _) h hq⟩
  rotate_left
  · obtain ⟨hw, e₀, d, τ, he₀, hx, h⟩ := h
    exact .inr (.inr ⟨hw, e₀, d, τ, fun t => (he₀ t).trans (he t), hx, h⟩)
  · refine .inr (.inl ⟨hw, ?_⟩)
    cases c with
    | d => obtain ⟨d, h1, h2⟩ := h; exact ⟨d, h1, ih _ _ _ (hput d) h2 hq⟩
    | r => obtain ⟨d, h1, h2⟩ := h; exact ⟨d, h1, ih _ _ _ (hput d) h2 hq⟩
    | w => obtain ⟨R, h1, h2⟩ := h; exact ⟨R, h1, fun d σ' hR => ih _ _ _ (hput d) (h2 d σ' hR) hq⟩
    | x => obtain ⟨R, h1, h2⟩ := h; exact ⟨R, h1, fun d σ' hR => ih _ _ _ (hput d) (h2 d σ' hR) hq⟩
theorem qi2 {m : Md} {f : FuncId} {fn : Func} {K : Ctx} {R : D → St → Prop} {k : List Item} (e e' : Env) (σ : St) (h : ∀ t, lk e t = lk e' t) (hg : zg m P f fn K R k e σ) : zg m P f fn K R k e' σ :=
 qal e (fun t d ht => ⟨d, by rw [← h t]; exact ht, Wk.refl d⟩) hg
theorem qnl {m : Md} {f : FuncId} {fn : Func} {K : Ctx} {R : D → St → Prop} {k : List Item} (s : Nat) {b : Bool} (hs : lk env s = some (.bool b)) (h1 : b = true → Run P l.toArray X (zg m P f fn K R k) rest ((s, .bool true) :: env) σ) (h2 : b = false → Run P l.toArray X (zg m P f fn K R k) rest ((s, .bool false) :: env) σ) : Run P l.toArray X (zg m P f fn K R k) rest env σ := by
 have he : ∀ t, lk ((s, D.bool b) :: env) t = lk env t := fun t => by
  rw [qfj]
  split
  · rename_i h; subst h; exact hs.symm
  · rfl
 cases b with
 | true => exact qqC rest _ env σ he (h1 rfl) qi2
 | false => exact qqC rest _ env σ he (h2 rfl) qi2
theorem qhV {m : Md} {f : FuncId} {fn : Func} {K : Ctx} {R : D → St → Prop} {k : List Item} (s : Nat) {b : Bool} (hs : lk env s = some (.bool b)) (h1 : b = true → zg m P f fn K R k ((s, .bool true) :: env) σ) (h2 : b = false → zg m P f fn K R k ((s, .bool false) :: env) σ) : zg m P f fn K R k env σ := by
 have he : ∀ t, lk ((s, D.bool b) :: env) t = lk env t := fun t => by
  rw [qfj]
  split
  · rename_i h; subst h; exact hs.symm
  · rfl
 cases b with
 | true => exact qi2 _ env σ he (h1 rfl)
 | false => exact qi2 _ env σ he (h2 rfl)
end
section
variable {P : Program} {o : Oper} {ρ : Operand → Option D} {d : D}
theorem qca (h : ∀ (p : Addr → Prop) (a : Act) (w : World), (∀ x ∈ o.op.operands, ∀ d, ρ x = some d → Rep p w d (a.eval x)) → ∃ v, (execOp a.eval o).run P w = .ok (.value v) w ∧ Rep p w d v) : zu P o ρ d := fun σ K p a w hi hx => by
 obtain ⟨v, h1, h2⟩ := h p a w hx
 unfold Oper.wp
 rw [h1]
 exact ⟨v, d, σ, p, rfl, ⟨rfl, rfl⟩, h2, hi, zM.refl p w⟩
theorem qf {x : Operand} (ho : o.op = .move x) (hx : ρ x = some d) : zu P o ρ d := qca fun p a w h =>
 ⟨a.eval x, by unfold execOp; rw [ho]; rfl, h x (by rw [ho]; simp [Op.operands]) d hx⟩
theorem rf {P : Program} {X : Env → D → St → Prop} {Q : Env → St → Prop} {rest : List (Nat × Cls)} {env : Env} {σ : St} {l : List Oper} {i t : Nat} {o : Oper} {d : D} {x : Operand} (e : (l[i]?, o.dst, yw l env o, o.op, ev env x) = (some o, some t, some true, .move x, some d)) (h : Run P l.toArray X Q rest ((t, d) :: env) σ) : Run P l.toArray X Q ((i, .d) :: rest) env σ := by
 injection e with h1 e
 injection e with h2 e
 injection e with h3 e
 injection e with h4 h5
 exact r_d h1 h2 h3 (qf h4 h5) h
theorem qc {x : Operand} (ho : o.op = .assign x) (hx : ρ x = some d) : zu P o ρ d := qca fun p a w h =>
 ⟨a.eval x, by unfold execOp; rw [ho]; rfl, h x (by rw [ho]; simp [Op.operands]) d hx⟩
theorem rc {P : Program} {X : Env → D → St → Prop} {Q : Env → St → Prop} {rest : List (Nat × Cls)} {env : Env} {σ : St} {l : List Oper} {i t : Nat} {o : Oper} {d : D} {x : Operand} (e : (l[i]?, o.dst, yw l env o, o.op, ev env x) = (some o, some t, some true, .assign x, some d)) (h : Run P l.toArray X Q rest ((t, d) :: env) σ) : Run P l.toArray X Q ((i, .d) :: rest) env σ := by
 injection e with h1 e
 injection e with h2 e
 injection e with h3 e
 injection e with h4 h5
 exact r_d h1 h2 h3 (qc h4 h5) h
theorem qr3 {c x y : Operand} {b : Bool} (ho : o.op = .pick c x y) (hc : ρ c = some (.bool b)) (hx : b = true → ρ x = some d) (hy : b = false → ρ y = some d) : zu P o ρ d := qca fun p a w h => by
 have h1 := h c (by rw [ho]; simp [Op.operands]) _ hc
 simp only [Rep] at h1
 cases b with
 | true => exact ⟨a.eval x, by unfold execOp; rw [ho]; simp [h1, asBool], h x (by rw [ho]; simp [Op.operands]) d (hx rfl)⟩
 | false => exact ⟨a.eval y, by unfold execOp; rw [ho]; simp [h1, asBool], h y (by rw [ho]; simp [Op.operands]) d (hy rfl)⟩
theorem qP {c x y : Operand} (ho : o.op = .pick c x y) (hc : ρ c = some (.bool true)) (hx : ρ x = some d) : zu P o ρ d := qr3 ho hc (fun _ => hx) fun h => by cases h
theorem qN {c x y : Operand} (ho : o.op = .pick c x y) (hc : ρ c = some (.bool false)) (hx : ρ y = some d) : zu P o ρ d := qr3 ho hc (fun h => by cases h) fun _ => hx
theorem qdN {x : Operand} {t : TypeId} {b : Bool} (ho : o.op = .unOp .not t x) (hx : ρ x = some (.bool b)) : zu P o ρ (.bool (!b)) := qca fun p a w h => by
 have h1 := h x (by rw [ho]; simp [Op.operands]) _ hx
 simp only [Rep] at h1
 exact ⟨.bool (!b), by unfold execOp; rw [ho]; simp [h1, Op.unary], by simp only [Rep]⟩
theorem qbi {x : Operand} {ix : Nat} {ds : List D} (ho : o.op = .extract x ix) (hx : ρ x = some (.tup ds)) (hd : ds[ix]? = some d) : zu P o ρ d := qca fun p a w h => by
 have h1 := h x (by rw [ho]; simp [Op.operands]) _ hx
 simp only [Rep] at h1
 obtain ⟨vs, h1, h2⟩ := h1
 obtain ⟨v, h3, h4⟩ := h2.at_ hd
 exact ⟨v, by unfold execOp; rw [ho]; simp [h1, Instr.extract, h3], h4⟩
/-! ### numbers and strings -/
def icmp : BinOp → Int → Int → Option Bool
 | .eql, x, y => some (x == y)
 | .neq, x, y => some (x != y)
 | .lss, x, y => some (decide (x < y))
 | .leq, x, y => some (decide (x ≤ y))
 | .gtr, x, y => some (decide (x > y))
 | .geq, x, y => some (decide (x ≥ y))
 | _, _, _ => none
theorem qV {op : BinOp} {t t' : TypeId} {x y : Operand} {k : IntKind} {m n : Int} {b : Bool} (ho : o.op = .binOp op t x y t') (hx : ρ x = some (.int k m)) (hy : ρ y = some (.int k n)) (hb : icmp op m n = some b) : zu P o ρ (.bool b) := qca fun p a w h => by
 have h1 := h x (by rw [ho]; simp [Op.operands]) _ hx
 have h2 := h y (by rw [ho]; simp [Op.operands]) _ hy
 simp only [Rep] at h1 h2
 refine ⟨.bool b, ?_, by simp only [Rep]⟩
 unfold execOp
 rw [ho]
 simp only [h1.1, h2.1]
 cases op <;> simp [icmp] at hb <;> subst hb <;> simp [binOp, eqGuard, Op.intCmp]
def iar : BinOp → Int → Int → Option Int
 | .add, x, y => some (x + y)
 | .sub, x, y => some (x - y)
 | .mul, x, y => some (x * y)
 | _, _, _ => none
theorem qkF (k : IntKind) (n : Int) : k.wrap (k.wrap n) = k.wrap n := by
 cases k <;> simp [IntKind.wrap, IntKind.bits, IntKind.signed] <;> split <;> split <;> omega
theorem qdK {op : BinOp} {t t' : TypeId} {x y : Operand} {k : IntKind} {m n r : Int} (ho : o.op = .binOp op t x y t') (hx : ρ x = some (.int k m)) (hy : ρ y = some (.int k n)) (hb : iar op m n = some r) : zu P o ρ (.int k (k.wrap r)) := qca fun p a w h => by
 have h1 := h x (by rw [ho]; simp [Op.operands]) _ hx
 have h2 := h y (by rw [ho]; simp [Op.operands]) _ hy
 simp only [Rep] at h1 h2
 refine ⟨.int k (k.wrap r), ?_, by simpa only [Rep, true_and] using qkF k r⟩
 unfold execOp
 rw [ho]
 simp only [h1.1, h2.1]
 cases op <;> simp [iar] at hb <;> subst hb <;> simp [binOp, eqGuard, Op.intArith]
theorem wrap64 {n : Int} (h : -9223372036854775808 ≤ n ∧ n < 9223372036854775808) : IntKind.i64.wrap n = n := by
 simp only [IntKind.wrap, IntKind.bits, IntKind.signed]
 simp
 split <;> omega
theorem qic {n : Int} (h : IntKind.i64.wrap n = n) : -9223372036854775808 ≤ n ∧ n < 9223372036854775808 := by
 simp only [IntKind.wrap, IntKind.bits, IntKind.signed] at h
 simp at h
 split at h <;> omega
theorem zZ {op : BinOp} {t t' : TypeId} {x y : Operand} {m n r : Int} (ho : o.op = .binOp op t x y t') (hx : ρ x = some (.int .i64 m)) (hy : ρ y = some (.int .i64 n)) (hb : iar op m n = some r) (hr : -9223372036854775808 ≤ r ∧ r < 9223372036854775808) : zu P o ρ (.int .i64 r) := by
 have := qdK (P := P) ho hx hy hb
 rw [wrap64 hr] at this
 exact this
def scmp : BinOp → ByteArray → ByteArray → Option Bool
 | .eql, x, y => some (x.toList == y.toList)
 | .neq, x, y => some (!(x.toList == y.toList))
 | .lss, x, y => some (Op.bytesLess x.toList y.toList)
 | .leq, x, y => some (Op.bytesLess x.toList y.toList || x.toList == y.toList)
 | .gtr, x, y => some (!(Op.bytesLess x.toList y.toList || x.toList == y.toList))
 | .geq, x, y => some (!Op.bytesLess x.toList y.toList)
 | _, _, _ => none
theorem qfl {op : BinOp} {t t' : TypeId} {x y : Operand} {m n : ByteArray} {b : Bool} (ho : o.op = .binOp op t x y t') (hx : ρ x = some (.str m)) (hy : ρ y = some (.str n)) (hb : scmp op m n = some b) : zu P o ρ (.bool b) := qca fun p a w h => by
 have h1 := h x (by rw [ho]; simp [Op.operands]) _ hx
 have h2 := h y (by rw [ho]; simp [Op.operands]) _ hy
 simp only [Rep] at h1 h2
 refine ⟨.bool b, ?_, by simp only [Rep]⟩
 unfold execOp
 rw [ho]
 simp only [h1.1, h2.1]
 cases op <;> simp only [scmp, Option.some.injEq, reduceCtorEq] at hb <;> subst hb <;> simp [binOp, eqGuard, Op.stringOp]
theorem qte {x y : Operand} {t t' : TypeId} {m n : Bool} (ho : o.op = .binOp .eql t x y t') (ht : P.underlying t = some .bool) (hx : ρ x = some (.bool m)) (hy : ρ y = some (.bool n)) : zu P o ρ (.bool (m == n)) := qca fun p a w h => by
 have h1 := h x (by rw [ho]; simp [Op.operands]) _ hx
 have h2 := h y (by rw [ho]; simp [Op.operands]) _ hy
 simp only [Rep] at h1 h2
 refine ⟨.bool (m == n), ?_, by simp only [Rep]⟩
 unfold execOp
 rw [ho]
 have e1 : eqGuard .eql t x y (.bool m) (.bool n) = pure () := rfl
 have e2 : binOp .eql t (.bool m) (.bool n) = (do pure (.bool (← Op.equal t (.bool m) (.bool n)))) := rfl
 simp [h1, h2, e1, e2, run_equal_bool w t m n ht]
/-! ### lists -/
inductive AsL : D → List D → Prop
 | lst (l : List D) : AsL (.lst l) l
 | full (l : List D) : AsL (.full l) l
 | own (u : Value) (l : List D) : AsL (.own u l) l
theorem AsL.rep {d : D} {l : List D} {p : Addr → Prop} {w : World} {v : Value} (h : AsL d l) (hv : Rep p w d v) : ∃ A c xs, v = .slice A l.length c ∧ l.length ≤ c ∧ c ≤ 9223372036854775807 ∧ RdP p w A xs ∧ zo p w l xs ∧ ∀ u ∈ xs, u.oneCell' = true := by
 cases h with
 | lst => simpa only [Rep] using hv
 | full => simp only [Rep] at hv; obtain ⟨A, xs, h1, h2, h3⟩ := hv; exact ⟨A, _, xs, h1, Nat.le_refl _, h2, h3⟩
 | own => simp only [Rep] at hv; obtain ⟨rfl, hv⟩ := hv; exact hv
def asL : D → Option (List D)
 | .lst l => some l
 | .full l => some l
 | .own _ l => some l
 | _ => none
theorem asl {d : D} {l : List D} (h : asL d = some l) : AsL d l := by
 cases d <;> simp only [asL, Option.some.injEq, reduceCtorEq] at h <;> subst h <;> constructor
theorem qtI {x : Operand} {t e : TypeId} {dx : D} {l : List D} (ho : o.op = .call { callee := .builtin .len, args := #[x], argTypes := #[t] }) (ht : P.underlying t = some (.slice e)) (hx : ρ x = some dx) (hl : AsL dx l) : zu P o ρ (.int .i64 (l.length : Int)) := qca fun p a w h => by
 obtain ⟨A, c, xs, h1, h2, h3, _⟩ := hl.rep (h x (by rw [ho]; simp [Op.operands, Call.operands]) _ hx)
 refine ⟨.int .i64 (l.length : Int), ?_, by simpa only [Rep, true_and] using wrap64 (by omega)⟩
 unfold execOp
 rw [ho]
 simp [resolve, invoke, builtin, h1, Builtin.len_, run_underlying ht, goInt]
theorem qpR {x : Operand} {t : TypeId} {s : ByteArray} (ho : o.op = .call { callee := .builtin .len, args := #[x], argTypes := #[t] }) (ht : P.underlying t = some .string) (hx : ρ x = some (.str s)) : zu P o ρ (.int .i64 (s.size : Int)) := qca fun p a w h => by
 have h1 := h x (by rw [ho]; simp [Op.operands, Call.operands]) _ hx
 simp only [Rep] at h1
 refine ⟨.int .i64 (s.size : Int), ?_, by simpa only [Rep, true_and] using wrap64 (by omega)⟩
 unfold execOp
 rw [ho]
 simp [resolve, invoke, builtin, h1.1, Builtin.len_, run_underlying ht, goInt]
theorem qnX {x : Operand} {t e : TypeId} {b s lo n : Nat} (ho : o.op = .call { callee := .builtin .len, args := #[x], argTypes := #[t] }) (ht : P.underlying t = some (.slice e)) (hx : ρ x = some (.arr b s lo n)) : zu P o ρ (.int .i64 (n : Int)) := qca fun p a w h => by
 have h1 := h x (by rw [ho]; simp [Op.operands, Call.operands]) _ hx
 simp only [Rep] at h1
 obtain ⟨A, c, h1, h2, h3, _⟩ := h1
 refine ⟨.int .i64 (n : Int), ?_, by simpa only [Rep, true_and] using wrap64 (by omega)⟩
 unfold execOp
 rw [ho]
 simp [resolve, invoke, builtin, h1, Builtin.len_, run_underlying ht, goInt]
theorem qs3 {t e : TypeId} {x ix : Operand} {dx : D} {l : List D} {k : IntKind} {n : Int} {j s : Nat} (ho : o.op = .indexAddr t x ix) (ht : P.underlying t = some (.slice e)) (hs : (P.info? e).map (·.size) = some s) (hs0 : 0 < s) (hx : ρ x = some dx) (hl : AsL dx l) (hix : ρ ix = some (.int k n)) (hn : n = (j : Int)) (hd : l[j]? = some d) (hall : zI s l) (hp : d.plain = true) : zu P o ρ (.ptr d) := qca fun p a w h => by
 obtain ⟨A, c, xs, h1, h2, h3, h4, h5, h6⟩ := hl.rep (h x (by rw [ho]; simp [Op.operands]) _ hx)
 have h7 := h ix (by rw [ho]; simp [Op.operands]) _ hix
 simp only [Rep] at h7
 subst hn
 have hj := (List.getElem?_eq_some_iff.1 hd).1
 obtain ⟨v, hv, hcell⟩ := h5.at_cell hd
 obtain ⟨i, hi, hin⟩ := Option.map_eq_some_iff.1 hs
 have hsz := Rep.sz hv
 rw [(hall.take j).szs] at hcell
 have hmin : (l.take j).length = j := by simp; omega
 rw [hmin] at hcell
 have hlen : xs.length = l.length * s := by rw [h5.len, hall.szs]
 rcases h4 with h4 | ⟨b, o', rfl, hc⟩
 · exfalso
   have : 0 < l.length * s := Nat.mul_pos (by omega) hs0
   rw [h4] at hlen
   simp at hlen
   omega
 · refine ⟨.pointer (some ⟨b, o' + j * s, none⟩), ?_, ?_⟩
   · unfold execOp
     rw [ho]
     have hlt : ((j : Int) < (l.length : Int)) := by omega
     simp [h1, h7.1, Instr.indexAt, asIntOf, run_underlying ht, sizeOf, typeInfo, hi, hin, hj, za3]
   · simp only [Rep]
     refine ⟨b, o' + j * s, v, rfl, .inr ⟨b, o' + j * s, rfl, fun m u hu => ?_⟩, hv, Rep.one hv hp⟩
     have := hc _ _ (hcell m u hu)
     rw [← Nat.add_assoc] at this
     exact this
end
end Go.Proofs.YtabbfihjeppbhaaGreat
