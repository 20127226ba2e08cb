/-
 Texts of the seat, merged.
-/
import Derived.Test.YtlfcjfiecoapoaaGreatLRJ
set_option linter.unusedVariables false
set_option linter.unusedSimpArgs false
set_option linter.unnecessarySimpa false
set_option linter.all false
set_option maxHeartbeats 8000000
namespace Go.Proofs.YtlfcjfiecoapoaaGreat
noncomputable section
set_option maxRecDepth 100000
open Go.RowKit
/-! ### entering -/
def Kd (M : Nat) (g : List Nd) : Prop := ∀ q ∈ g, q.f3_Kids.length ≤ M
def Ent (M : Nat) (g : List Nd) (c : List Int) (n : Nat) (i : Int) (g' : List Nd) (c' : List Int) : Prop := StG g' c' ∧ Kd M g' ∧ (∃ e, g' = g ++ e ∧ e.length ≤ n ∧ c' = c ++ (List.range' g.length e.length).map fun (x : Nat) => (x : Int)) ∧ 0 ≤ i ∧ i < g'.length
def y9 (M : Nat) (g : List Nd) (c : List Int) (n : Nat) (g' : List Nd) (c' : List Int) : Prop := StG g' c' ∧ Kd M g' ∧ ∃ e, g' = g ++ e ∧ e.length ≤ n ∧ c' = c ++ (List.range' g.length e.length).map fun (x : Nat) => (x : Int)
theorem y9.rfl' {M : Nat} {g : List Nd} {c : List Int} (h : StG g c) (k : Kd M g) (n : Nat) : y9 M g c n g c := ⟨h, k, [], by simp, by simp, by simp⟩
theorem y9.trans {M : Nat} {g g1 g2 : List Nd} {c c1 c2 : List Int} {m n : Nat} (h : y9 M g c m g1 c1) (k : y9 M g1 c1 n g2 c2) : y9 M g c (m + n) g2 c2 := by
 obtain ⟨_, _, e, rfl, he, rfl⟩ := h
 obtain ⟨a, b, f, rfl, hf, rfl⟩ := k
 refine ⟨a, b, e ++ f, by rw [ji], by rw [jf]; omega, ?_⟩
 rw [jf, jf, ← List.range'_append, jM, ji]
 simp
theorem y9.more {M : Nat} {g g1 : List Nd} {c c1 : List Int} {m n : Nat} (h : y9 M g c m g1 c1) (hm : m ≤ n) : y9 M g c n g1 c1 := by
 obtain ⟨a, b, e, rfl, he, rfl⟩ := h
 exact ⟨a, b, e, rfl, by omega, rfl⟩
theorem y9.le {M : Nat} {g g1 : List Nd} {c c1 : List Int} {m : Nat} (h : y9 M g c m g1 c1) : g.length ≤ g1.length ∧ g1.length ≤ g.length + m := by
 obtain ⟨a, b, e, rfl, he, rfl⟩ := h
 rw [jf]
 omega
theorem StG.snoc {g : List Nd} {c : List Int} (h : StG g c) {q : Nd} (hq : ∀ k ∈ q.f3_Kids, 0 ≤ k ∧ k < g.length) : StG (g ++ [q]) (c ++ [(g.length : Int)]) := by
 have hl := h.len
 refine ⟨by simp [hl], fun v hv => ?_, fun v hv => ?_, fun p hp k hk => ?_⟩
 · rw [jf, jp]
   rcases jn.1 hv with hv | hv
   · have := h.cls v hv
     omega
   · rw [jm.1 hv]
     omega
 · rcases jn.1 hv with hv | hv
   · exact qz3 (h.idem v hv)
   · rw [jm.1 hv, ← hl]
     exact qA8
 · rw [jf, jp]
   rcases jn.1 hp with hp | hp
   · have := h.kid p hp k hk
     omega
   · rw [jm.1 hp] at hk
     have := hq k hk
     omega
abbrev EnR := Option (Int × List Nd × List Int)
theorem quB (t : T) (g0 : List Nd) (c0 : List Int) (k : EnR) : ∀ (l : List Nd) (i : Nat), qH k g0 c0 t l i = k ∨ ∃ j q, qH k g0 c0 t l i = some (((i + j : Nat) : Int), g0, c0) ∧ l[j]? = some q ∧ q.f0_Kind = 1 ∧ q.f1_Int = t.i
 | [], i => .inl (by rw [qH])
 | q :: l, i => by
  rw [qH]
  have next : qH k g0 c0 t l (i + 1) = k ∨ ∃ j q', qH k g0 c0 t l (i + 1) = some (((i + j : Nat) : Int), g0, c0) ∧ (q :: l)[j]? = some q' ∧ q'.f0_Kind = 1 ∧ q'.f1_Int = t.i := by
   rcases quB t g0 c0 k l (i + 1) with h | ⟨j, q', h1, h2, h3⟩
   · exact .inl h
   · exact .inr ⟨j + 1, q', by rw [h1, show i + 1 + j = i + (j + 1) by omega], by simpa using h2, h3⟩
  by_cases h1 : q.f0_Kind = 1
  · rw [uT h1, cond_true]
    by_cases h2 : q.f1_Int = t.i
    · rw [uT h2, cond_true]
      exact .inr ⟨0, q, rfl, rfl, h1, h2⟩
    · rw [uF h2, cond_false]
      exact next
  · rw [uF h1, cond_false]
    exact next
inductive Rp (g : List Nd) : Int → T → Prop
 | mk (i : Int) (q : Nd) (t : T) : zj g i = some q → q.f0_Kind = t.k → q.f1_Int = t.i → q.f2_Name = t.s → q.f3_Kids.length = t.ar.length → (∀ n a u, zj q.f3_Kids n = some a → zj t.ar n = some u → Rp g a u) → Rp g i t
theorem Rp.more {g : List Nd} (e : List Nd) {i : Int} {t : T} (h : Rp g i t) : Rp (g ++ e) i t := by
 induction h with
 | mk i q t h1 h2 h3 h4 h5 _ ih => exact .mk i q t (qz3 h1) h2 h3 h4 h5 ih
def zbl (g : List Nd) : Prop := ∀ q ∈ g, q.f0_Kind = 1 → q.f2_Name = ⟨#[]⟩ ∧ q.f3_Kids = []
def zaB (g : List Nd) : Prop := ∀ i q, zj g i = some q → ∃ t, Rp g i t
theorem zaB.nil : zaB [] := fun i q h => absurd (qeK h) (by simp)
theorem zaB.snoc {g : List Nd} (h : zaB g) {q : Nd} {t : T} (hr : Rp (g ++ [q]) (g.length : Int) t) : zaB (g ++ [q]) := fun i p hp => by
 obtain ⟨h0, h1, _⟩ := qkf hp
 rw [jf, jp] at h1
 by_cases e : i = (g.length : Int)
 · rw [e]
   exact ⟨t, hr⟩
 · obtain ⟨p', hp', _⟩ := yw (l := g) (i := i) h0 (by omega)
   obtain ⟨u, hu⟩ := h i p' hp'
   exact ⟨u, hu.more _⟩
theorem qun {M : Nat} {rec : T → List Nd → List Int → EnR} (k : List Nd → List Int → Int → Int → ByteArray → List Int → EnR) (k1 k2 : Int) (s : ByteArray) :
 ∀ (l : List T) (g : List Nd) (c : List Int) (kids : List Int), (∀ t ∈ l, ∀ g c, StG g c → Kd M g → zbl g → g.length + wt t ≤ 1000000000 → ∃ i g' c', rec t g c = some (i, g', c') ∧ Ent M g c (wt t) i g' c' ∧ zbl g' ∧ Rp g' i t ∧ (zaB g → zaB g')) → StG g c → Kd M g → zbl g → g.length + wtL l ≤ 1000000000 → kids.length + l.length ≤ 1000000000 → (∀ a ∈ kids, 0 ≤ a ∧ a < g.length) →
 ∃ g' c' ks, qR k rec l g c k1 k2 s kids = k g' c' k1 k2 s (kids ++ ks) ∧ y9 M g c (wtL l) g' c' ∧ zbl g' ∧ ks.length = l.length ∧ (∀ a ∈ kids ++ ks, 0 ≤ a ∧ a < g'.length) ∧ (∀ (n : Nat) a u, ks[n]? = some a → l[n]? = some u → Rp g' a u) ∧ (zaB g → zaB g')
 | [], g, c, kids, _, hs, hk, hv, _, _, hb => ⟨g, c, [], by rw [qR, jx], y9.rfl' hs hk _, hv, rfl, by simpa using hb, fun n a u h => by simp at h, id⟩
 | t :: l, g, c, kids, hr, hs, hk, hv, hw, hl, hb => by
  rw [wtL] at hw
  rw [jg] at hl
  obtain ⟨i, g1, c1, e1, h1, v1, r1, q1⟩ := hr t (jd ..) g c hs hk hv (by omega)
  obtain ⟨a1, b1, x1, i0, i1⟩ := h1
  have E1 : y9 M g c (wt t) g1 c1 := ⟨a1, b1, x1⟩
  have hle := E1.le
  obtain ⟨g2, c2, ks, e2, E2, v2, l2, b2, r2, q2⟩ := qun k k1 k2 s l g1 c1 (kids ++ [i]) (fun t ht => hr t (je _ ht)) a1 b1 v1 (by omega) (by rw [jf, jp]; omega) (fun a ha => by
   rcases jn.1 ha with ha | ha
   · have := hb a ha
     omega
   · rw [jm.1 ha]
     exact ⟨i0, i1⟩)
  refine ⟨g2, c2, i :: ks, ?_, E1.trans E2, v2, by simp [l2], by simpa using b2, ?_, fun h => q2 (q1 h)⟩
  · rw [qR, e1, ja, qg5 (by omega) (n := l.length) (by omega), ja, e2, ji, vz]
  · intro n a u ha hu
    cases n with
    | zero =>
     simp only [vy, Option.some.injEq] at ha hu
     subst ha hu
     obtain ⟨_, _, e, rfl, _⟩ := E2
     exact r1.more e
    | succ n => exact r2 n a u (by simpa using ha) (by simpa using hu)
inductive yE : T → Prop
 | mk (t : T) : (t.k = 1 → t.s = ⟨#[]⟩ ∧ t.ar = []) → (∀ u ∈ t.ar, yE u) → yE t
theorem qhH {M : Nat} : ∀ (fuel : Nat) (t : T) (g : List Nd) (c : List Int), yE t → wt t < fuel → wt t ≤ M → StG g c → Kd M g → zbl g → g.length + wt t ≤ 1000000000 →
 ∃ i g' c', qai fuel t g c = some (i, g', c') ∧ Ent M g c (wt t) i g' c' ∧ zbl g' ∧ Rp g' i t ∧ (zaB g → zaB g')
 | 0, _, _, _, _, h, _, _, _, _, _ => absurd h (vm _)
 | fuel + 1, t, g, c, hok, hf, hM, hs, hk, hv, hw => by
  obtain ⟨_, hv1, hv2⟩ := hok
  have hwt := qhe t
  have hlen := qf4 t.ar
  have main : ∃ i g' c', qR (fun g_18 g_19 x_21 x_22 x_23 x_24 => ((zN 56 g_18 [(⟨x_21, x_22, x_23, x_24⟩ : qd)]).bind fun l_25 => ((zN 8 g_19 [(wr ((l_25.length : Int) - (1 : Int)))]).bind fun l_27 => some ((wr ((l_25.length : Int) - (1 : Int))), l_25, l_27)))) (qai fuel) t.ar g c t.k t.i t.s [] = some (i, g', c') ∧ Ent M g c (wt t) i g' c' ∧ zbl g' ∧ Rp g' i t ∧ (zaB g → zaB g') := by
   obtain ⟨g1, c1, ks, e1, E1, v1, l1, b1, r1, q1⟩ := qun (M := M) (rec := qai fuel) (fun g_18 g_19 x_21 x_22 x_23 x_24 => ((zN 56 g_18 [(⟨x_21, x_22, x_23, x_24⟩ : qd)]).bind fun l_25 => ((zN 8 g_19 [(wr ((l_25.length : Int) - (1 : Int)))]).bind fun l_27 => some ((wr ((l_25.length : Int) - (1 : Int))), l_25, l_27)))) t.k t.i t.s t.ar g c [] (fun u hu g c h1 h2 h3 h4 => qhH fuel u g c (hv2 u hu) (by have := qvg hu; omega) (by have := qvg hu; omega) h1 h2 h3 h4) hs hk hv (by omega) (by simp; omega) (by simp)
   rw [jo] at e1 b1
   obtain ⟨s1, k1, x, hx, hxl, hc⟩ := E1
   have hl1 := s1.len
   have hg1 : g1.length ≤ g.length + wtL t.ar := by rw [hx, jf]; omega
   have ha : zN 56 g1 [(⟨t.k, t.i, t.s, ks⟩ : Nd)] = some (g1 ++ [⟨t.k, t.i, t.s, ks⟩]) := qg5 (by omega) (n := 0) (by omega)
   have hwr : wr (((g1 ++ [(⟨t.k, t.i, t.s, ks⟩ : Nd)]).length : Int) - 1) = (g1.length : Int) := by
    rw [jf, jp, qhO (by omega)]
    omega
   have hb : zN 8 c1 [((g1.length : Nat) : Int)] = some (c1 ++ [((g1.length : Nat) : Int)]) := qg5 (by omega) (n := 0) (by omega)
   have hR : Rp (g1 ++ [(⟨t.k, t.i, t.s, ks⟩ : Nd)]) (g1.length : Int) t := by
    refine .mk _ ⟨t.k, t.i, t.s, ks⟩ t ?_ rfl rfl rfl l1 fun n a u ha hu => ?_
    · rw [← jx [(⟨t.k, t.i, t.s, ks⟩ : Nd)]]
      exact qA8 (done := g1) (ts := [])
    · exact (r1 n.toNat a u (qb6 ha).2 (qb6 hu).2).more _
   refine ⟨(g1.length : Int), g1 ++ [⟨t.k, t.i, t.s, ks⟩], c1 ++ [(g1.length : Int)], ?_, ⟨s1.snoc b1, ?_, ⟨x ++ [⟨t.k, t.i, t.s, ks⟩], ?_, ?_, ?_⟩, by omega, ?_⟩, ?_, hR, fun h => (q1 h).snoc hR⟩
   · rw [e1, ha, ja, hwr, hb, ja]
   · intro q hq
     rcases jn.1 hq with hq | hq
     · exact k1 q hq
     · rw [jm.1 hq]
       show ks.length ≤ M
       omega
   · rw [hx, ji]
   · rw [jf, jp]
     omega
   · rw [hc, jf, jp, List.range'_concat, jM, ji]
     congr 3
     simp [hx]
   · rw [jf, jp]
     omega
   · intro q hq hq1
     rcases jn.1 hq with hq | hq
     · exact v1 q hq hq1
     · rw [jm.1 hq] at hq1 ⊢
       obtain ⟨h1, h2⟩ := hv1 hq1
       refine ⟨h1, ?_⟩
       rw [h2] at l1
       exact jB l1
  rw [qai]
  dsimp only
  unfold qcb
  by_cases h1 : t.k = 1
  · rw [uT h1, cond_true]
    rcases quB t g c _ g 0 with h | ⟨j, q, h, hj, hq1, hq2⟩
    · rw [h]
      exact main
    · have hjl := (jr.1 hj).1
      obtain ⟨hs1, hs2⟩ := hv1 h1
      obtain ⟨hn1, hn2⟩ := hv q (List.mem_of_getElem? hj) hq1
      refine ⟨_, g, c, h, ⟨hs, hk, ⟨[], by simp, by simp, by simp⟩, by omega, by omega⟩, hv, .mk _ q t (by rw [qdy, jt]; exact hj) (by rw [hq1, h1]) hq2 (by rw [hn1, hs1]) (by rw [hn2, hs2]; rfl) fun n a u ha => ?_, id⟩
      rw [hn2] at ha
      exact absurd (qeK ha) (by simp)
  · rw [uF h1, cond_false]
    exact main
abbrev Ms := qi
/-! ### least, term -/
theorem qt5 (c : List Int) (cl : Int) (k : Int → Option Int) : ∀ (l : List Nd) (v : Int) (i : Nat), i + l.length ≤ c.length → ∃ r, qv k c cl l v i = k r
 | [], v, i, _ => ⟨v, by rw [qv]⟩
 | q :: l, v, i, h => by
  rw [jg] at h
  obtain ⟨x, hx, _⟩ := yw (l := c) (i := (i : Int)) (by omega) (by omega)
  have next := fun v => qt5 c cl k l v (i + 1) (by omega)
  rw [qv, hx, ja]
  cases (x == cl) with
  | false => exact next v
  | true =>
   cases (q.f0_Kind == (1 : Int)) with
   | false => exact next v
   | true =>
    cases (decide (v < 0)) with
    | true => exact next _
    | false =>
     cases (decide (q.f1_Int < v)) with
     | true => exact next _
     | false => exact next _
theorem qnQ {g : List Nd} {c : List Int} (h : StG g c) (cl : Int) : ∃ r, qbk cl g c = some r := by
 obtain ⟨r, e⟩ := qt5 c cl (fun v => some v) g (-1) 0 (by have := h.len; omega)
 exact ⟨r, e⟩
theorem qwC {rec : Int → List Nd → List Int → Option T} {g : List Nd} {c : List Int} (h : StG g c) {q : Nd} (hq : q ∈ g) (hM : q.f3_Kids.length ≤ 1000000000) (k : Int → Int → ByteArray → List T → Option T) (a b : Int) (s : ByteArray) (hr : ∀ x ∈ q.f3_Kids, ∀ v, zj c x = some v → ∃ t, rec v g c = some t) :
 ∀ (n i : Nat) (l : List T), q.f3_Kids.length < n + i → i ≤ q.f3_Kids.length → l.length = i → ∃ l', qC k rec g c q n (i : Int) a b s l = k a b s l'
 | 0, i, l, h1, h2, _ => by omega
 | n + 1, i, l, h1, h2, h3 => by
  have hl := h.len
  rw [qC]
  by_cases hi : i < q.f3_Kids.length
  · obtain ⟨x, hx, hxm⟩ := yw (l := q.f3_Kids) (i := (i : Int)) (by omega) (by omega)
    have hxb := h.kid q hq x hxm
    obtain ⟨v, hv, _⟩ := yw (l := c) hxb.1 (by omega)
    obtain ⟨t, ht⟩ := hr x hxm v hv
    have hi' : wr ((i : Int) + 1) = ((i + 1 : Nat) : Int) := by
     rw [qhO (by omega)]
     omega
    obtain ⟨l', e⟩ := qwC h hq hM k a b s hr n (i + 1) (l ++ [t]) (by omega) (by omega) (by simp [h3])
    refine ⟨l', ?_⟩
    rw [decide_eq_true (by omega), cond_true, hx, ja, hv, ja, ht, ja, qg5 (by omega) (n := 0) (by omega), ja, hi', e]
  · rw [decide_eq_false (by omega), cond_false]
    exact ⟨l, rfl⟩
def yz (M : Nat) (g : List Nd) (c : List Int) (K : Nat) (v : Int) : Prop := ∀ fuel, K + M + 2 ≤ fuel → ∃ t, qF fuel v g c = some t
theorem yz.more {M : Nat} {g : List Nd} {c : List Int} {K L : Nat} {v : Int} (h : yz M g c K v) (hl : K ≤ L) : yz M g c L v := fun fuel hf => h fuel (by omega)
theorem qsh {M : Nat} (hM : M ≤ 1000000000) {g : List Nd} {c : List Int} (h : StG g c) (hk : Kd M g) {K : Nat} {v r : Int} (hr : qI v g c = some r) (hs : r < 0 ∨ ∃ q, zj g r = some q ∧ ∀ x ∈ q.f3_Kids, ∀ w, zj c x = some w → yz M g c K w) : yz M g c (K + 1) v := by
 intro fuel hf
 obtain ⟨fuel, rfl⟩ : ∃ n, fuel = n + 1 := ⟨fuel - 1, by omega⟩
 rw [qF]
 dsimp only
 rw [hr, ja]
 by_cases h0 : r < 0
 · rw [decide_eq_true h0, cond_true]
   obtain ⟨x, e⟩ := qnQ h v
   exact ⟨_, by rw [e, ja]⟩
 · rcases hs with hs | ⟨q, hq, hx⟩
   · exact absurd hs h0
   · rw [decide_eq_false h0, cond_false, hq, ja]
     have hqm := qeK hq
     have hkq := hk q hqm
     obtain ⟨l', e⟩ := qwC h hqm (by omega) (rec := qF fuel) (fun t_14 t_15 t_16 t_17 => some ((T.mk t_14 t_15 t_16 t_17))) q.f0_Kind q.f1_Int q.f2_Name (fun x hxm w hw => hx x hxm w hw fuel (by omega)) fuel 0 [] (by omega) (by omega) rfl
     exact ⟨_, e⟩
/-! ### measured -/
def AllM (a : List Ms) : Prop := ∀ y ∈ a, 0 ≤ y.f0_Size ∧ y.f0_Size ≤ 201
def SetM (a : List Ms) (v : Int) : Prop := ∃ y, zj a v = some y ∧ 0 < y.f0_Size
abbrev MsR := Option (List Ms × Bool)
def ks (a : List Ms) (c : List Int) : List Int → Int
 | [] => 0
 | x :: l => (((zj c x).bind fun w => zj a w).map fun y => y.f0_Size).getD 0 + ks a c l
theorem qAT {a : List Ms} (ha : AllM a) (c : List Int) : ∀ l : List Int, 0 ≤ ks a c l
 | [] => vx _
 | x :: l => by
  have := qAT ha c l
  rw [ks]
  cases h : (zj c x).bind fun w => zj a w with
  | none =>
   show 0 ≤ 0 + _
   omega
  | some y =>
   obtain ⟨w, _, hy⟩ := ve.1 h
   have := (ha y (qeK hy)).1
   show 0 ≤ y.f0_Size + _
   omega
theorem qtd {a : List Ms} {c : List Int} {x w : Int} {y : Ms} (h1 : zj c x = some w) (h2 : zj a w = some y) (l : List Int) : ks a c (x :: l) = y.f0_Size + ks a c l := by
 rw [ks, h1, ja, h2]
 rfl
theorem qzH {a : List Ms} (ha : AllM a) {c : List Int} {x w : Int} {y : Ms} (h1 : zj c x = some w) (h2 : zj a w = some y) : ∀ {l : List Int}, x ∈ l → y.f0_Size ≤ ks a c l
 | z :: l, h => by
  have hl := qAT ha c l
  rcases jh.1 h with rfl | h
  · rw [qtd h1 h2]
    omega
  · have := qzH ha h1 h2 h
    rw [ks]
    cases hz : (zj c z).bind fun w => zj a w with
    | none =>
     show _ ≤ 0 + _
     omega
    | some y' =>
     obtain ⟨w', _, hy⟩ := ve.1 hz
     have := (ha y' (qeK hy)).1
     show _ ≤ y'.f0_Size + _
     omega
def zaZ (g : List Nd) (c : List Int) (v s : Int) : Prop := ∀ fuel t, qF fuel v g c = some t → (wt t : Int) ≤ s
theorem qtT {rec : Int → List Nd → List Int → Option T} {g : List Nd} {c : List Int} {a : List Ms} {q : Nd} (hl : q.f3_Kids.length ≤ 1000000000) (hr : ∀ x ∈ q.f3_Kids, ∀ w, zj c x = some w → ∃ y, zj a w = some y ∧ ∀ t, rec w g c = some t → (wt t : Int) ≤ y.f0_Size) (k1 k2 : Int) (nm : ByteArray) :
 ∀ (n i : Nat) (l : List T) (t : T), i ≤ q.f3_Kids.length → qC (fun t_14 t_15 t_16 t_17 => some (T.mk t_14 t_15 t_16 t_17)) rec g c q n (i : Int) k1 k2 nm l = some t → (wt t : Int) ≤ 1 + wtL l + ks a c (q.f3_Kids.drop i)
 | 0, i, l, t, _, h => by
  rw [qC] at h
  cases h
 | n + 1, i, l, t, hi, h => by
  rw [qC] at h
  by_cases h1 : (i : Int) < (q.f3_Kids.length : Int)
  · rw [decide_eq_true h1, cond_true] at h
    obtain ⟨x, hx, h⟩ := ve.1 h
    obtain ⟨v, hv, h⟩ := ve.1 h
    obtain ⟨y, hy, h⟩ := ve.1 h
    obtain ⟨l2, hl2, h⟩ := ve.1 h
    obtain ⟨z, hz, hw⟩ := hr x (qkf hx).2.2 v hv
    have hwy := hw y hy
    have hl2' : l2 = l ++ [y] := by
     unfold zN at hl2
     split at hl2
     · exact (Option.some.inj hl2).symm
     · cases hl2
    subst hl2'
    have hi' : wr ((i : Int) + 1) = ((i + 1 : Nat) : Int) := by
     rw [qhO (by omega)]
     omega
    rw [hi'] at h
    have ih := qtT hl hr k1 k2 nm n (i + 1) (l ++ [y]) t (by omega) h
    have hd : q.f3_Kids.drop i = x :: q.f3_Kids.drop (i + 1) := by
     rw [qdy] at hx
     rw [jV (by omega)]
     rw [jq (by omega)] at hx
     rw [Option.some.inj hx]
    rw [hd, qtd hv hz]
    rw [qlI] at ih
    simp only [wtL] at ih
    omega
  · rw [decide_eq_false h1, cond_false] at h
    rw [← Option.some.inj h, j2 (by omega), ks, wt]
    omega
theorem qqn {g : List Nd} {c : List Int} {a : List Ms} {v r s : Int} (hr : qI v g c = some r) (h1 : 1 ≤ s) (hs : r < 0 ∨ ∃ q, zj g r = some q ∧ q.f3_Kids.length ≤ 1000000000 ∧ (∀ x ∈ q.f3_Kids, ∀ w, zj c x = some w → ∃ y, zj a w = some y ∧ zaZ g c w y.f0_Size) ∧ 1 + ks a c q.f3_Kids ≤ s) : zaZ g c v s := by
 intro fuel t ht
 cases fuel with
 | zero =>
  rw [qF] at ht
  cases ht
 | succ fuel =>
  rw [qF] at ht
  dsimp only at ht
  rw [hr, ja] at ht
  by_cases h0 : r < 0
  · rw [decide_eq_true h0, cond_true] at ht
    obtain ⟨x, _, ht⟩ := ve.1 ht
    rw [← Option.some.inj ht, wt, wtL]
    omega
  · rcases hs with hs | ⟨q, hq, hl, hk, hsum⟩
    · exact absurd hs h0
    · rw [decide_eq_false h0, cond_false, hq, ja] at ht
      have := qtT (a := a) hl (fun x hx w hw => by
       obtain ⟨y, hy, hy2⟩ := hk x hx w hw
       exact ⟨y, hy, fun t h => hy2 fuel t h⟩) _ _ _ fuel 0 [] t (jc _) ht
      rw [vd] at this
      simp only [wtL] at this
      omega
theorem qzd (k : Bool → Ms → MsR) (a : List Ms) (g : List Nd) (c : List Int) {r : Int} (hr : r < 0) (n : Nat) (hn : 0 < n) (d : Bool) (j : Int) (x : Ms) : qL k a g c r n d j x = k d x := by
 obtain ⟨n, rfl⟩ : ∃ m, n = m + 1 := ⟨n - 1, by omega⟩
 rw [qL, decide_eq_false (by omega), cond_false]
theorem qvT {g : List Nd} {c : List Int} (h : StG g c) {a : List Ms} (ha : AllM a) (hal : a.length = g.length) (k : Bool → Ms → MsR) {r : Int} {q : Nd} (hq : zj g r = some q) (hM : q.f3_Kids.length ≤ 1000000000) :
 ∀ (n j : Nat) (d : Bool) (x : Ms), q.f3_Kids.length < n + j → j ≤ q.f3_Kids.length → 1 ≤ x.f0_Size → x.f0_Size ≤ 201 → ∃ d' x', qL k a g c r n d (j : Int) x = k d' x' ∧ (1 ≤ x'.f0_Size ∧ x'.f0_Size ≤ 201) ∧ (d' = true → d = true ∧ ∀ (i : Nat) y, j ≤ i → q.f3_Kids[i]? = some y → ∀ w, zj c y = some w → SetM a w) ∧ (x'.f0_Size ≤ 200 → x.f0_Size + ks a c (q.f3_Kids.drop j) ≤ x'.f0_Size)
 | 0, j, d, x, h1, h2, _, _ => by omega
 | n + 1, j, d, x, h1, h2, h3, h4 => by
  have hl := h.len
  have hr0 := (qkf hq).1
  rw [qL, decide_eq_true (by omega), cond_true, hq, ja]
  by_cases hj : j < q.f3_Kids.length
  · obtain ⟨y, hy, hym⟩ := yw (l := q.f3_Kids) (i := (j : Int)) (by omega) (by omega)
    have hyb := h.kid q (qeK hq) y hym
    obtain ⟨w, hw, hwm⟩ := yw (l := c) hyb.1 (by omega)
    have hwb := h.cls w hwm
    obtain ⟨z, hz, hzm⟩ := yw (l := a) hwb.1 (by omega)
    have hzb := ha z hzm
    have hj' : wr ((j : Int) + 1) = ((j + 1 : Nat) : Int) := by
     rw [qhO (by omega)]
     omega
    have hsz : wr (x.f0_Size + z.f0_Size) = x.f0_Size + z.f0_Size := qhO (by omega)
    rw [decide_eq_true (by omega), cond_true, hy, ja, hw, ja, hz, ja, hj', hsz]
    have hx1 : 1 ≤ yu (x.f0_Size + z.f0_Size) 201 := by rw [qqW]; omega
    have hx2 : yu (x.f0_Size + z.f0_Size) 201 ≤ 201 := by rw [qqW]; omega
    have next := fun d => qvT h ha hal k hq hM n (j + 1) d ⟨yu (x.f0_Size + z.f0_Size) 201, (yu (zak x.f1_Depth (wr (z.f1_Depth + (1 : Int)))) (21 : Int))⟩ (by omega) (by omega) hx1 hx2
    have hdr : q.f3_Kids.drop j = y :: q.f3_Kids.drop (j + 1) := by
     have hy := hy
     rw [qdy] at hy
     rw [jV (by omega)]
     rw [jq (by omega)] at hy
     rw [Option.some.inj hy]
    have hnn := qAT ha c (q.f3_Kids.drop (j + 1))
    have sum : ∀ x' : Ms, (x'.f0_Size ≤ 200 → yu (x.f0_Size + z.f0_Size) 201 + ks a c (q.f3_Kids.drop (j + 1)) ≤ x'.f0_Size) → x'.f0_Size ≤ 200 → x.f0_Size + ks a c (q.f3_Kids.drop j) ≤ x'.f0_Size := fun x' h h2 => by
     have := h h2
     rw [hdr, qtd hw hz]
     rw [qqW] at this
     omega
    cases d with
    | true =>
     rw [cond_true]
     obtain ⟨d', x', e, hx, hd, hsm⟩ := next (decide (z.f0_Size > 0))
     refine ⟨d', x', e, hx, fun hd' => ⟨rfl, fun i y' hi hy' w' hw' => ?_⟩, sum x' hsm⟩
     obtain ⟨h5, h6⟩ := hd hd'
     by_cases hij : i = j
     · subst hij
       rw [qdy] at hy
       obtain rfl := Option.some.inj (hy.symm.trans hy')
       obtain rfl := Option.some.inj (hw.symm.trans hw')
       exact ⟨z, hz, by simpa using h5⟩
     · exact h6 i y' (by omega) hy' w' hw'
    | false =>
     rw [cond_false]
     obtain ⟨d', x', e, hx, hd, hsm⟩ := next false
     exact ⟨d', x', e, hx, (fun hd' => by cases (hd hd').1), sum x' hsm⟩
  · rw [decide_eq_false (by omega), cond_false]
    refine ⟨d, x, rfl, ⟨h3, h4⟩, fun hd => ⟨hd, fun i y hi hy => ?_⟩, fun _ => by rw [j2 (by omega), ks]; omega⟩
    have := (jr.1 hy).1
    omega
def yY (c : List Int) (j : Nat) : Bool := (c[j]? == some (j : Int))
def unS (a : List Ms) (j : Nat) : Bool := match a[j]? with
 | some y => decide (¬ 0 < y.f0_Size)
 | none => true
def un (c : List Int) (a : List Ms) (n : Nat) : Nat := (List.range n).countP fun j => yY c j && unS a j
theorem qoT {p p' : Nat → Bool} {v : Nat} : ∀ {l : List Nat}, l.Nodup → v ∈ l → p v = true → p' v = false → (∀ x, x ≠ v → p' x = p x) → l.countP p = l.countP p' + 1
 | [], _, h, _, _, _ => by cases h
 | x :: l, hn, h, h1, h2, h3 => by
  obtain ⟨hx, hn⟩ := jO.1 hn
  by_cases e : x = v
  · subst e
    have : l.countP p = l.countP p' := List.countP_congr fun y hy => by rw [h3 y fun e => hx (e ▸ hy)]
    rw [vH, vH, h1, h2, this]
    simp
  · have := qoT hn ((jh.1 h).resolve_left fun k => e k.symm) h1 h2 h3
    rw [vH, vH, h3 x e, this]
    omega
theorem qBD {c : List Int} {a : List Ms} {n : Nat} {v : Int} {y x : Ms} (hv : 0 ≤ v ∧ v < n) (hal : a.length = n) (hc : zj c v = some v) (ha : zj a v = some y) (hy : ¬ 0 < y.f0_Size) (hx : 0 < x.f0_Size) : un c a n = un c (a.set v.toNat x) n + 1 := by
 have hc := (qb6 hc).2
 have ha := (qb6 ha).2
 refine qoT (v := v.toNat) List.nodup_range (List.mem_range.2 (by omega)) ?_ ?_ fun j hj => ?_
 · unfold yY unS
   rw [hc, ha]
   simp
   omega
 · unfold unS
   rw [List.getElem?_set_self (by omega)]
   simp [hx]
 · unfold unS
   rw [List.getElem?_set_ne (by omega)]
structure MI (M : Nat) (g : List Nd) (c : List Int) (left : Int) (a : List Ms) : Prop where
 len : a.length = g.length
 all : AllM a
 cnt : left = un c a g.length
 term : ∀ v, SetM a v → yz M g c (g.length - left.toNat) v
 wgt : ∀ v y, zj a v = some y → 0 < y.f0_Size → y.f0_Size ≤ 200 → zaZ g c v y.f0_Size
theorem qB1 (c : List Int) (a : List Ms) (n : Nat) : un c a n ≤ n := by
 have := List.countP_le_length (p := fun j => yY c j && unS a j) (l := List.range n)
 unfold un
 simpa using this
theorem qqO {M : Nat} (hM : M ≤ 1000000000) {g : List Nd} (hg : g.length ≤ 1000000000) {c : List Int} (h : StG g c) (hk : Kd M g) (fuel : Nat) (hf : M + 1 < fuel) (k : Int → List Ms → MsR) :
 ∀ (l : List Nd) (left : Int) (i : Nat) (a : List Ms), i + l.length = g.length → MI M g c left a → ∃ left' a', qy k g c fuel l left i a = k left' a' ∧ MI M g c left' a' ∧ left' ≤ left
 | [], left, i, a, _, hI => ⟨left, a, by rw [qy], hI, vx _⟩
 | q :: l, left, i, a, hi, hI => by
  have hl := h.len
  rw [jg] at hi
  obtain ⟨v, hv, hvm⟩ := yw (l := c) (i := (i : Int)) (by omega) (by omega)
  have hvb := h.cls v hvm
  have hvi := h.idem v hvm
  obtain ⟨y, hy, hym⟩ := yw (l := a) hvb.1 (by rw [hI.len]; exact hvb.2)
  rw [qy, hv, ja, hy, ja]
  by_cases hs : y.f0_Size > 0
  · rw [decide_eq_true hs, cond_true]
    exact qqO hM hg h hk fuel hf k l left (i + 1) a (by omega) hI
  rw [decide_eq_false hs, cond_false]
  obtain ⟨r, hr, hrq⟩ := qip h v
  rw [hr, ja]
  have hun := qB1 c a g.length
  have hle := hI.cnt
  have both : ∀ d (x : Ms), (1 ≤ x.f0_Size ∧ x.f0_Size ≤ 201) → (d = true → yz M g c (g.length - left.toNat + 1) v) → (d = true → x.f0_Size ≤ 200 → zaZ g c v x.f0_Size) → ∃ left' a', (bif d then qy k g c fuel l (wr (left - (1 : Int))) (i + 1) (a.set v.toNat x) else qy k g c fuel l left (i + 1) a) = k left' a' ∧ MI M g c left' a' ∧ left' ≤ left := by
   intro d x hx hd hwg
   cases d with
   | false =>
    rw [cond_false]
    exact qqO hM hg h hk fuel hf k l left (i + 1) a (by omega) hI
   | true =>
    rw [cond_true]
    have hu := qBD (x := x) hvb hI.len hvi hy hs (by omega)
    have hw : wr (left - 1) = left - 1 := qhO (by omega)
    rw [hw]
    obtain ⟨left', a', e, hI', hl'⟩ := qqO hM hg h hk fuel hf k l (left - 1) (i + 1) (a.set v.toNat x) (by omega) ⟨by rw [List.length_set]; exact hI.len, fun z hz => by
     rcases vX hz with hz | rfl
     · exact hI.all z hz
     · omega, by omega, fun w hw => by
     by_cases e : w = v
     · subst e
       exact (hd rfl).more (by omega)
     · refine (hI.term w ?_).more (by omega)
       obtain ⟨z, hz, hz0⟩ := hw
       have hw0 := (qb6 hz).1
       refine ⟨z, ?_, hz0⟩
       unfold zj at hz ⊢
       rw [if_pos hw0] at hz ⊢
       rwa [List.getElem?_set_ne (by omega)] at hz, fun w z hz hz0 hz2 => by
     by_cases e : w = v
     · subst e
       have : z = x := by
        unfold zj at hz
        rw [if_pos hvb.1, List.getElem?_set_self (by have := hI.len; omega)] at hz
        exact (Option.some.inj hz).symm
       rw [this] at hz2 ⊢
       exact hwg rfl hz2
     · refine hI.wgt w z ?_ hz0 hz2
       have hw0 := (qb6 hz).1
       unfold zj at hz ⊢
       rw [if_pos hw0] at hz ⊢
       rwa [List.getElem?_set_ne (by omega)] at hz⟩
    exact ⟨left', a', e, hI', by omega⟩
  rcases hrq with rfl | ⟨p, hp, hpc, hpk⟩
  · rw [qzd _ a g c (by omega) fuel (by omega)]
    exact both true ⟨1, 1⟩ (by simp) (fun _ => qsh hM h hk hr (.inl (by omega))) fun _ _ => qqn (a := a) hr (by simp) (.inl (by omega))
  · have hpm := qeK hp
    have hkp := hk p hpm
    obtain ⟨d, x, e, hx, hd, hsm⟩ := qvT h hI.all hI.len (fun done_25 x_26 => bif done_25 then qy k g c fuel l (wr (left - (1 : Int))) (i + 1) (a.set v.toNat x_26) else qy k g c fuel l left (i + 1) a) hp (by omega) fuel 0 true ⟨1, 1⟩ (by omega) (by omega) (by simp) (by simp)
    refine Exists.imp (fun left' h => h.imp fun a' h => ⟨e.trans h.1, h.2⟩) (both d x hx (fun hd' => qsh hM h hk hr (.inr ⟨p, hp, fun z hz w hw => ?_⟩)) fun hd' hx2 => ?_)
    · obtain ⟨n, hn⟩ := List.mem_iff_getElem?.1 hz
      exact hI.term w ((hd hd').2 n z (jc _) hn w hw)
    · have hsm := hsm hx2
      rw [vd] at hsm
      refine qqn (a := a) hr hx.1 (.inr ⟨p, hp, by omega, fun z hz w hw => ?_, hsm⟩)
      obtain ⟨n, hn⟩ := List.mem_iff_getElem?.1 hz
      obtain ⟨y', hy', hy0⟩ := (hd hd').2 n z (jc _) hn w hw
      have := qzH hI.all hw hy' hz
      have h1 : (⟨1, 1⟩ : Ms).f0_Size = 1 := rfl
      exact ⟨y', hy', hI.wgt w y' hy' hy0 (by omega)⟩
theorem qww {M : Nat} (hM : M ≤ 1000000000) {g : List Nd} (hg : g.length ≤ 1000000000) {c : List Int} (h : StG g c) (hk : Kd M g) (fuel : Nat) (hf : M + 1 < fuel) :
 ∀ (n : Nat) (left : Int) (a : List Ms), left < n → MI M g c left a → ∃ m ok, qZ (fun a_8 => some (a_8, true)) g c fuel n left a = some (m, ok) ∧ (ok = true → ∃ left', left' ≤ 0 ∧ MI M g c left' m)
 | 0, left, a, h1, hI => by
  have := hI.cnt
  omega
 | n + 1, left, a, h1, hI => by
  rw [qZ]
  by_cases h0 : left > 0
  · rw [decide_eq_true h0, cond_true]
    obtain ⟨left', a', e, hI', hle⟩ := qqO hM hg h hk fuel hf (fun left_13 a_14 => bif (left_13 == left) then some ([], false) else qZ (fun a_8 => some (a_8, true)) g c fuel n left_13 a_14) g left 0 a (by omega) hI
    rw [e]
    by_cases he : left' = left
    · rw [uT he, cond_true]
      exact ⟨_, _, rfl, fun h => by cases h⟩
    · rw [uF he, cond_false]
      exact qww hM hg h hk fuel hf n left' a' (by omega) hI'
  · rw [decide_eq_false h0, cond_false]
    exact ⟨a, true, rfl, fun _ => ⟨left, by omega, hI⟩⟩
theorem qs7 (c : List Int) (k : Int → MsR) : ∀ (l : List Nd) (left : Int) (i : Nat), i + l.length = c.length → 0 ≤ left → left + l.length ≤ 1000000000 → qT k c l left i = k (left + (List.range' i l.length).countP (yY c))
 | [], left, i, _, _, _ => by
  rw [qT]
  simp
 | q :: l, left, i, h, h0, h1 => by
  rw [jg] at h h1
  obtain ⟨v, hv, _⟩ := yw (l := c) (i := (i : Int)) (by omega) (by omega)
  rw [qT, hv, ja, jg, List.range'_succ, vH]
  rw [qdy] at hv
  by_cases e : v = (i : Int)
  · have hi : yY c i = true := by
     unfold yY
     rw [hv, e]
     simp
    rw [uT e, cond_true, qhO (by omega), qs7 c k l (left + 1) (i + 1) (by omega) (by omega) (by omega), hi]
    congr 1
    simp
    omega
  · have hi : yY c i = false := by
     unfold yY
     rw [hv]
     simpa using e
    rw [uF e, cond_false, qs7 c k l left (i + 1) (by omega) (by omega) (by omega), hi]
    simp
theorem qoQ {M : Nat} (hM : M ≤ 1000000000) {g : List Nd} (hg : g.length ≤ 1000000000) {c : List Int} (h : StG g c) (hk : Kd M g) (fuel : Nat) (hf : g.length + M + 1 < fuel) : ∃ m ok, qbD fuel g c = some (m, ok) ∧ (ok = true → ∀ v ∈ c, ((∃ y, zj m v = some y) ∧ yz M g c g.length v) ∧ ∀ y, zj m v = some y → y.f0_Size ≤ 200 → zaZ g c v y.f0_Size) := by
 have hl := h.len
 unfold qbD
 have hm : zac 16 (g.length : Int) = some g.length := by
  unfold zac
  rw [vG, if_pos (by omega)]
 rw [hm, ja, qs7 c _ g 0 0 (by omega) (by omega) (by omega)]
 have hrep : ∀ y ∈ List.replicate g.length (⟨0, 0⟩ : Ms), y = ⟨0, 0⟩ := fun y hy => Jb hy
 have hun : un c (List.replicate g.length ⟨0, 0⟩) g.length = (List.range' 0 g.length).countP (yY c) := by
  unfold un
  rw [← vY]
  refine List.countP_congr fun j hj => ?_
  have hu : unS (List.replicate g.length ⟨0, 0⟩) j = true := by
   unfold unS
   rw [List.getElem?_replicate]
   split
   · rename_i y hy
     split at hy
     · obtain rfl := Option.some.inj hy
       simp
     · cases hy
   · rfl
  rw [hu, Bool.and_true]
 have hule := qB1 c (List.replicate g.length ⟨0, 0⟩) g.length
 obtain ⟨m, ok, e, hok⟩ := qww hM (by omega) h hk fuel (by omega) fuel (0 + ((List.range' 0 g.length).countP (yY c) : Int)) (List.replicate g.length ⟨0, 0⟩) (by omega) ⟨by simp, fun y hy => by
  rw [hrep y hy]
  simp, by omega, fun v hv => by
  obtain ⟨y, hy, hy0⟩ := hv
  rw [hrep y (qeK hy)] at hy0
  exact absurd hy0 (by simp), fun v y hy hy0 => by
  rw [hrep y (qeK hy)] at hy0
  exact absurd hy0 (by simp)⟩
 refine ⟨m, ok, e, fun h1 v hv => ?_⟩
 obtain ⟨left, hle, hI⟩ := hok h1
 have hvb := h.cls v hv
 obtain ⟨y, hy, _⟩ := yw (l := m) hvb.1 (by rw [hI.len]; exact hvb.2)
 have pos : 0 < y.f0_Size := ?_
 · refine ⟨⟨⟨y, hy⟩, (hI.term v ⟨y, hy, pos⟩).more (by omega)⟩, fun y' hy' h2 => ?_⟩
   obtain rfl := Option.some.inj (hy.symm.trans hy')
   exact hI.wgt v y hy pos h2
 have h0 : un c m g.length = 0 := by
  have := hI.cnt
  omega
 have hall := List.countP_eq_zero.1 h0 v.toNat (List.mem_range.2 (by omega))
 have hc := (qb6 (h.idem v hv)).2
 have hy' := (qb6 hy).2
 have hr : yY c v.toNat = true := by
  unfold yY
  rw [hc]
  simp
  omega
 rw [hr, jR] at hall
 unfold unS at hall
 rw [hy'] at hall
 simpa using hall
theorem qyW {M : Nat} (hM : M ≤ 1000000000) {g : List Nd} (hg : g.length ≤ 1000000000) {c : List Int} (h : StG g c) (hk : Kd M g) (fuel : Nat) (hf : g.length + M + 1 < fuel) : ∃ m ok, qbD fuel g c = some (m, ok) ∧ (ok = true → ∀ v ∈ c, (∃ y, zj m v = some y) ∧ yz M g c g.length v) := by
 obtain ⟨m, ok, e, h⟩ := qoQ hM hg h hk fuel hf
 exact ⟨m, ok, e, fun h1 v hv => (h h1 v hv).1⟩
/-! ### the variables of the reference -/
theorem qzO (n : Int) : ∀ l : List Int, qb4 (some false) n l = some (decide (n ∈ l))
 | [] => by rw [qb4]; rfl
 | x :: l => by
  rw [qb4, qzO n l]
  by_cases h : x = n
  · subst h; simp
  · have h' : n ≠ x := fun e => h e.symm
    rw [beq_false_of_ne h]
    simp [h']
theorem qBU (l : List Int) (n : Int) : qfc l n = some (decide (n ∈ l)) := qzO n l
theorem qvo (t : T) : qdI t = some t.used := by
 rw [qdI, T.used]
 by_cases h : t.k = 2
 · rw [if_pos h, show (t.k == (2 : Int)) = true by simpa using h]; rfl
 · rw [if_neg h, show (t.k == (2 : Int)) = false by simpa using h]; rfl
theorem qx4 {rec : List Int → T → Option (List Int)} (k : List Int → Option (List Int)) : ∀ (ts : List T) (l : List Int) (m : Nat), (∀ t ∈ ts, ∀ l : List Int, l.length + wt t ≤ m → rec l t = some (yj l (yh t))) → l.length + wtL ts ≤ m → qah k rec ts l = k (yj l (zw ts))
 | [], l, m, _, _ => by rw [qah]; simp [zw, qnK]
 | t :: ts, l, m, h, hm => by
  simp only [wtL] at hm
  rw [qah, h t (jd ..) l (by omega)]
  simp only [ja]
  have hl := qlU (yh t) l
  have ho := qv4 t
  rw [qx4 k ts _ m (fun u hu => h u (je _ hu)) (by omega), ← qqA]
  simp [zw]
theorem qtI : ∀ (fuel : Nat) (t : T) (l : List Int), wt t < fuel → l.length + wt t ≤ 1000000000 → qca fuel l t = some (yj l (yh t))
 | 0, _, _, h, _ => by omega
 | fuel + 1, t, l, h, hm => by
  rw [qca]
  have hwt := qhe t
  have key : ∀ l' : List Int, l'.length ≤ l.length + 1 → qah (fun l_9 => some l_9) (qca fuel) t.used l' = some (yj l' (zw t.used)) := fun l' hl' => by
   have hu := qlW t
   refine qx4 _ t.used l' (l'.length + wtL t.used) (fun u hu' l2 hl2 => qtI fuel u l2 ?_ ?_) (jk _)
   · have := qAy hu'; omega
   · omega
  show qcB _ _ _ = _
  unfold qcB
  rw [qBU]
  simp only [ja, qvo]
  by_cases hk : t.k = 1
  · rw [show (t.k == (1 : Int)) = true by simpa using hk]
    have hused : t.used = [] := by unfold T.used; rw [if_neg (by omega)]
    have hocc := qrj hk
    simp only [cond_true]
    by_cases hx : t.i ∈ l
    · rw [decide_eq_true hx]
      simp only [jG, cond_false]
      rw [key l (by omega), hocc, hused]
      simp [zw, yj, zaH, hx]
    · rw [decide_eq_false hx]
      simp only [Bool.not_false, cond_true]
      rw [qme (by simp; omega) (by simp; omega)]
      simp only [ja]
      rw [key _ (by simp), hocc, hused]
      simp [zw, yj, zaH, hx]
  · rw [show (t.k == (1 : Int)) = false by simpa using hk]
    simp only [cond_false]
    rw [key l (by omega), qxc hk]
theorem qr5 (fuel : Nat) (k : List Int → Option (List Int)) : ∀ (ts : List T) (l : List Int), wtL ts < fuel → l.length + wtL ts ≤ 1000000000 → qbg k fuel ts l = k (yj l (zw ts))
 | [], l, _, _ => by rw [qbg]; simp [zw, qnK]
 | t :: ts, l, h, hm => by
  simp only [wtL] at h hm
  rw [qbg, qtI fuel t l (by omega) (by omega)]
  simp only [ja]
  have hl := qlU (yh t) l
  have ho := qv4 t
  rw [qr5 fuel k ts _ (by omega) (by omega), ← qqA]
  simp [zw]
theorem qn8 (fuel : Nat) (ts : List T) (h : wtL ts < fuel) (hm : wtL ts ≤ 1000000000) : qbV fuel ts = some (yj [] (zw ts)) := by
 rw [qbV, qr5 fuel _ ts [] h (by simpa using hm)]
theorem qtc (c : List Int) : cnt c ≤ c.length := by
 have := qlU c []
 simpa [cnt] using this
abbrev BsR := Option (List (Int × T) × Int)
theorem qrP (k : Int → BsR) (q : Nd) : ∀ (l : List (Int × T)) (i : Nat), ∃ j : Nat, i ≤ j ∧ j ≤ i + l.length ∧ qbs k q l i = k (j : Int)
 | [], i => ⟨i, jk _, jk _, by rw [qbs]⟩
 | x :: l, i => by
  rw [qbs, jg]
  by_cases h : x.1 < q.f1_Int
  · obtain ⟨j, h1, h2, e⟩ := qrP k q l (i + 1)
    exact ⟨j, by omega, by omega, by rw [decide_eq_true h, cond_true, e]⟩
  · exact ⟨i, jk _, by omega, by rw [decide_eq_false h, cond_false]⟩
theorem qrg (k : Int → BsR) (q : Nd) : ∀ (l : List (Int × T)) (i : Nat), ∃ j : Nat, i ≤ j ∧ j ≤ i + l.length ∧ qbu k q l i = k (j : Int)
 | [], i => ⟨i, jk _, jk _, by rw [qbu]⟩
 | x :: l, i => by
  rw [qbu, jg]
  by_cases h : x.1 < q.f1_Int
  · obtain ⟨j, h1, h2, e⟩ := qrg k q l (i + 1)
    exact ⟨j, by omega, by omega, by rw [decide_eq_true h, cond_true, e]⟩
  · exact ⟨i, jk _, by omega, by rw [decide_eq_false h, cond_false]⟩
theorem qmG (k : List (Int × T) → BsR) (out : List (Int × T)) (x : Int × T) (j : Nat) (hj : j ≤ out.length) (hl : out.length ≤ 1000000000) :
 ((yt out 0 (j : Int)).bind fun l_51 => ((zN 64 [] l_51).bind fun l_52 => ((zN 64 l_52 [x]).bind fun l_54 => ((yt out (j : Int) (out.length : Int)).bind fun l_56 => ((zN 64 l_54 l_56).bind fun l_57 => k l_57))))) = k (out.take j ++ [x] ++ out.drop j) := by
 have h1 : yt out 0 (j : Int) = some (out.take j) := by
  unfold yt
  rw [if_pos (by omega)]
  simp
 have h2 : yt out (j : Int) (out.length : Int) = some (out.drop j) := by
  unfold yt
  rw [if_pos (by omega)]
  simp
 rw [h1, ja, qlZ (by omega) (by simp; omega), ja, jo, qlZ (by omega) (by simp; omega), ja, h2, ja, qlZ (by omega) (by simp; omega), ja]
theorem qur {M : Nat} {g : List Nd} (hg : g.length ≤ 1000000000) {c : List Int} (h : StG g c) (fuel : Nat) (hf : g.length + M + 2 ≤ fuel) (m : List Ms × Bool) (hm : ∀ v ∈ c, (∃ y, zj m.1 v = some y) ∧ yz M g c g.length v) :
 ∀ (n i : Nat) (out : List (Int × T)), g.length < n + i → i ≤ g.length → out.length ≤ i → ∃ r, q7 (fun out_24 => some (out_24, 0)) fuel m n out (i : Int) g c = some r
 | 0, i, out, h1, h2, _ => by omega
 | n + 1, i, out, h1, h2, h3 => by
  have hl := h.len
  rw [q7]
  by_cases hi : i < g.length
  · obtain ⟨v, hv, hvm⟩ := yw (l := c) (i := (i : Int)) (by omega) (by omega)
    obtain ⟨q, hq, hqm⟩ := yw (l := g) (i := (i : Int)) (by omega) (by omega)
    obtain ⟨⟨y, hy⟩, ht⟩ := hm v hvm
    obtain ⟨t, ht⟩ := ht fuel hf
    obtain ⟨r, hr, _⟩ := qip h v
    obtain ⟨s, hs⟩ := qnQ h v
    have hi' : wr ((i : Int) + 1) = ((i + 1 : Nat) : Int) := by
     rw [qhO (by omega)]
     omega
    have next := fun out ho => qur hg h fuel hf m hm n (i + 1) out (by omega) (by omega) ho
    rw [decide_eq_true (by omega), cond_true, hv, ja, hq, ja, hi']
    cases (q.f0_Kind != (1 : Int)) with
    | true => exact next out (by omega)
    | false =>
     rw [cond_false, hr, ja]
     cases (decide (r < 0)) with
     | true =>
      rw [cond_true, hs, ja]
      cases (s == q.f1_Int) with
      | true => exact next out (by omega)
      | false =>
       rw [cond_false, hy, ja]
       cases (decide (y.f0_Size > 200)) with
       | true => exact ⟨_, rfl⟩
       | false =>
        rw [cond_false]
        cases (decide (y.f1_Depth > 20)) with
        | true => exact ⟨_, rfl⟩
        | false =>
         rw [cond_false, ht, ja]
         obtain ⟨j, _, hj, e⟩ := qrP _ q out 0
         rw [e, qmG _ out _ j (by omega) (by omega)]
         exact next _ (by simp; omega)
     | false =>
      rw [cond_false, hy, ja]
      cases (decide (y.f0_Size > 200)) with
      | true => exact ⟨_, rfl⟩
      | false =>
       rw [cond_false]
       cases (decide (y.f1_Depth > 20)) with
       | true => exact ⟨_, rfl⟩
       | false =>
        rw [cond_false, ht, ja]
        obtain ⟨j, _, hj, e⟩ := qrg _ q out 0
        rw [e, qmG _ out _ j (by omega) (by omega)]
        exact next _ (by simp; omega)
  · rw [decide_eq_false (by omega), cond_false]
    exact ⟨_, rfl⟩
theorem quJ {M : Nat} (b : List T) (fuel : Nat) (hf : 1500000000 < fuel) (hM : M ≤ 300000000) (k : List Nd → List Int → BsR) (hk : ∀ g c, StG g c → Kd M g → g.length ≤ 600000000 → ∃ r, k g c = some r) (hb : ∀ t ∈ b, yE t ∧ wt t ≤ M) :
 ∀ (l : List T) (i : Nat) (g : List Nd) (c : List Int), i + l.length = b.length → (∀ t ∈ l, yE t ∧ wt t ≤ M) → StG g c → Kd M g → zbl g → g.length + wtL l + wtL (b.drop i) ≤ 600000000 → ∃ r, qS k b fuel l i g c = some r
 | [], i, g, c, _, _, hs, hkd, _, hw => by
  rw [qS]
  exact hk g c hs hkd (by omega)
 | t :: l, i, g, c, hi, ht, hs, hkd, hv, hw => by
  rw [jg] at hi
  obtain ⟨u, hu, hum⟩ := yw (l := b) (i := (i : Int)) (by omega) (by omega)
  have hdrop : wtL (b.drop i) = wt u + wtL (b.drop (i + 1)) := by
   rw [qdy] at hu
   rw [jV (by omega), wtL]
   congr 1
   rw [jq (by omega)] at hu
   exact congrArg wt (Option.some.inj hu)
  rw [wtL, hdrop] at hw
  obtain ⟨x, g1, c1, e1, E1, v1, _⟩ := qhH fuel t g c (ht t (jd ..)).1 (by omega) (ht t (jd ..)).2 hs hkd hv (by omega)
  obtain ⟨s1, k1, m1, x0, x1⟩ := E1
  have hl1 := y9.le (M := M) (c := c) (c1 := c1) ⟨s1, k1, m1⟩
  obtain ⟨y, g2, c2, e2, E2, v2, _⟩ := qhH fuel u g1 c1 (hb u hum).1 (by have := (hb u hum).2; omega) (hb u hum).2 s1 k1 v1 (by omega)
  obtain ⟨s2, k2, m2, y0, y1⟩ := E2
  have hl2 := y9.le (M := M) (c := c1) (c1 := c2) ⟨s2, k2, m2⟩
  have hc := qtc c2
  have hcl := s2.len
  obtain ⟨ok, c3, e3, s3, _, _⟩ := qny (g := g2) (by omega) fuel x y c2 s2 (by omega) (by omega) x0 (by omega) y0 y1
  rw [qS, e1, ja, hu, ja]
  dsimp only
  rw [e2, ja]
  dsimp only
  rw [e3, ja]
  cases ok with
  | false => exact ⟨_, rfl⟩
  | true =>
   rw [jG, cond_false]
   exact quJ b fuel hf hM k hk hb l (i + 1) g2 c3 (by omega) (fun t h => ht t (je _ h)) s3 k2 v2 (by omega)
theorem qw9 (fuel : Nat) (hf : 1500000000 < fuel) (a b : List T) (hl : a.length = b.length) (ha : ∀ t ∈ a, yE t) (hb : ∀ t ∈ b, yE t) (wa : wtL a ≤ 300000000) (wb : wtL b ≤ 300000000) : ∃ r, qb8 fuel a b = some r := by
 unfold qb8
 refine quJ (M := 300000000) b fuel hf (jk _) _ (fun g c hs hk hg => ?_) (fun t ht => ⟨hb t ht, by have := qff ht; omega⟩) a 0 [] [] (by omega) (fun t ht => ⟨ha t ht, by have := qff ht; omega⟩) ⟨rfl, fun v hv => by simp at hv, fun v hv => by simp at hv, fun q hq => by simp at hq⟩ (fun q hq => by simp at hq) (fun q hq => by simp at hq) (by simp; omega)
 obtain ⟨m, ok, e, hok⟩ := qyW (M := 300000000) (by omega) (by omega) hs hk fuel (by omega)
 rw [e, ja]
 cases ok with
 | false => exact ⟨_, rfl⟩
 | true =>
  dsimp only
  rw [jG, cond_false]
  exact qur (M := 300000000) (by omega) hs fuel (by omega) (m, true) (hok rfl) fuel 0 [] (by omega) (by omega) (by simp)
mutual
theorem qqq : ∀ t : T, zK t = true → yE t
 | .mk k i s ar, h => by
  refine .mk _ (fun h1 => ?_) fun u hu => ?_
  · rw [qnS h1] at h
    have h := of_decide_eq_true h
    refine ⟨qm6 (h.2.2.1.trans (by rw [Lib.toList_data])), jB h.2.2.2⟩
  · by_cases h2 : k = 2
    · subst h2
      rw [ql6 rfl, jj] at h
      exact qnZ ar h.2 u hu
    · have h0 : ar.length = 0 := by
       rcases Classical.em (k = 0) with e | e
       · subst e
         rw [ql8 rfl] at h
         exact (of_decide_eq_true h).2.2.2
       · rcases Classical.em (k = 1) with e1 | e1
         · subst e1
           rw [qnS rfl] at h
           exact (of_decide_eq_true h).2.2.2
         · rw [qm4 (t := .mk k i s ar) e e1 h2] at h
           cases h
      rw [jB h0] at hu
      cases hu
theorem qnZ : ∀ l : List T, zI l = true → ∀ t ∈ l, yE t
 | [], _, t, ht => by cases ht
 | u :: l, h, t, ht => by
  rw [zI, jj] at h
  rcases jh.1 ht with e | ht
  · rw [e]
    exact qqq u h.1
  · exact qnZ l h.2 t ht
end
theorem qgm {t : T} (h : zM t = true) : yE t := by
 unfold zM at h
 simp only [jj] at h
 exact qqq t h.1.1
theorem qnV (k : BsR) (Q : BsR → Prop) (hno : Q (some ([], 2))) : ∀ l : List T, wtL l ≤ 300000000 → ((∀ t ∈ l, zM t = true) → Q k) → Q (qbW k l)
 | [], _, h => by
  rw [qbW]
  exact h fun t ht => by cases ht
 | t :: l, hw, h => by
  rw [wtL] at hw
  rw [qbW, qia t (by omega), ja]
  cases hr : zM t with
  | false => exact hno
  | true =>
   rw [jG, cond_false]
   refine qnV k Q hno l (by omega) fun hl => h fun u hu => ?_
   rcases jh.1 hu with rfl | hu
   · exact hr
   · exact hl u hu
theorem qos (k : BsR) (Q : BsR → Prop) (hno : Q (some ([], 2))) : ∀ l : List T, wtL l ≤ 300000000 → ((∀ t ∈ l, zM t = true) → Q k) → Q (qb2 k l)
 | [], _, h => by
  rw [qb2]
  exact h fun t ht => by cases ht
 | t :: l, hw, h => by
  rw [wtL] at hw
  rw [qb2, qia t (by omega), ja]
  cases hr : zM t with
  | false => exact hno
  | true =>
   rw [jG, cond_false]
   refine qos k Q hno l (by omega) fun hl => h fun u hu => ?_
   rcases jh.1 hu with rfl | hu
   · exact hr
   · exact hl u hu
theorem qyN (fuel : Nat) (hf : 1500000000 < fuel) (a b : List T) (wa : wtL a ≤ 300000000) (wb : wtL b ≤ 300000000) : ∃ r, qaD fuel a b = some r := by
 unfold qaD
 refine qnV _ (fun x => ∃ r, x = some r) ⟨_, rfl⟩ a wa fun ha => qos _ (fun x => ∃ r, x = some r) ⟨_, rfl⟩ b wb fun hb => ?_
 by_cases h : a.length = b.length
 · rw [show ((a.length : Int) != (b.length : Int)) = false by simp [h], cond_false]
   obtain ⟨r, e⟩ := qw9 fuel hf a b h (fun t ht => qgm (ha t ht)) (fun t ht => qgm (hb t ht)) wa wb
   exact ⟨_, by rw [e, ja]⟩
 · rw [show ((a.length : Int) != (b.length : Int)) = true by simp; omega, cond_true]
   exact ⟨_, rfl⟩
theorem qqE (fuel : Nat) (hf : 1500000000 < fuel) (a b : T) (wa : wt a ≤ 300000000) (wb : wt b ≤ 300000000) : ∃ r, qbR fuel a b = some r := by
 unfold qbR qeT
 obtain ⟨r, e⟩ := qyN fuel hf [a] [b] (by simp [wtL]; omega) (by simp [wtL]; omega)
 rw [e, ja, ja]
 cases (r.2 == (0 : Int)) with
 | true => exact ⟨_, rfl⟩
 | false => exact ⟨_, rfl⟩
/-! ### arithmetic -/
theorem qlA (n : Int) : ∃ b, qas n = some b := by
 unfold qas
 cases (decide (n ≥ -2147483648)) with
 | true => exact ⟨_, rfl⟩
 | false => exact ⟨_, rfl⟩
theorem qsf (s : ByteArray) : ∃ b, qco s = some b := by
 unfold qco
 cases (s.toList == (⟨#[43]⟩ : ByteArray).toList) with
 | true => exact ⟨_, rfl⟩
 | false =>
  cases (s.toList == (⟨#[45]⟩ : ByteArray).toList) with
  | true => exact ⟨_, rfl⟩
  | false =>
   cases (s.toList == (⟨#[42]⟩ : ByteArray).toList) with
   | true => exact ⟨_, rfl⟩
   | false =>
    cases (s.toList == (⟨#[47]⟩ : ByteArray).toList) with
    | true => exact ⟨_, rfl⟩
    | false => exact ⟨_, rfl⟩
theorem qv9 (s : ByteArray) : ∃ b, qcT s = some b := by
 unfold qcT
 cases (s.toList == (⟨#[43]⟩ : ByteArray).toList) with
 | true => exact ⟨_, rfl⟩
 | false =>
  cases (s.toList == (⟨#[45]⟩ : ByteArray).toList) with
  | true => exact ⟨_, rfl⟩
  | false =>
   cases (s.toList == (⟨#[42]⟩ : ByteArray).toList) with
   | true => exact ⟨_, rfl⟩
   | false =>
    cases (s.toList == (⟨#[47]⟩ : ByteArray).toList) with
    | true => exact ⟨_, rfl⟩
    | false => exact ⟨_, rfl⟩
theorem qqz (a : Int) {b : Int} (h : b ≠ 0) : ∃ r, zbv a b = some r := by
 unfold zbv
 rw [if_neg h]
 exact ⟨_, rfl⟩
theorem qv7 {n : Int} (h : qas n = some true) : -2147483648 ≤ n ∧ n ≤ 2147483648 := by
 unfold qas at h
 by_cases h1 : n ≥ -2147483648
 · rw [decide_eq_true h1, cond_true] at h
   have := of_decide_eq_true (Option.some.inj h)
   omega
 · rw [decide_eq_false h1, cond_false] at h
   cases h
theorem qv8 (a b : Int) (hb : b ≠ 0) (h : -2147483648 ≤ b ∧ b ≤ 2147483648) : ∃ r, qd7 a b = some r := by
 unfold qd7
 have hw : wr (-b) = -b := qhO (by omega)
 rw [hw]
 cases (decide (b < 0)) with
 | true =>
  cases (decide (wr (-a) ≥ 0)) with
  | true =>
   obtain ⟨r, e⟩ := qqz (wr (-a)) (b := -b) (by omega)
   exact ⟨_, by rw [cond_true, cond_true, e, ja]⟩
  | false =>
   obtain ⟨r, e⟩ := qqz (wr (wr (-b - 1) - wr (-a))) (b := -b) (by omega)
   exact ⟨_, by rw [cond_true, cond_false, e, ja]⟩
 | false =>
  cases (decide (a ≥ 0)) with
  | true =>
   obtain ⟨r, e⟩ := qqz a hb
   exact ⟨_, by rw [cond_false, cond_true, e, ja]⟩
  | false =>
   obtain ⟨r, e⟩ := qqz (wr (wr (b - 1) - a)) hb
   exact ⟨_, by rw [cond_false, cond_false, e, ja]⟩
theorem qbb {α β : Type} {x : Option α} {f : α → Option β} (h : ∃ r, x = some r) (k : ∀ r, x = some r → ∃ s, f r = some s) : ∃ s, x.bind f = some s := by
 obtain ⟨r, e⟩ := h
 obtain ⟨s, e2⟩ := k r e
 exact ⟨s, by rw [e, ja, e2]⟩
theorem qaE {β : Type} {b : Bool} {x y : Option β} (h : b = true → ∃ s, x = some s) (k : b = false → ∃ s, y = some s) : ∃ s, (bif b then x else y) = some s := by
 cases b with
 | true => exact h rfl
 | false => exact k rfl
theorem qad {β : Type} (a : β) : ∃ s, some a = some s := ⟨a, rfl⟩
theorem qxo (s : ByteArray) (a b : Int) : ∃ r, qdq s a b = some r := by
 unfold qdq
 refine qbb (qsf s) fun r _ => qaE (fun _ => qad _) fun _ => qbb (qlA a) fun r2 _ => qaE (fun _ => qad _) fun _ => qbb (qlA b) fun r3 hr3 => qaE (fun _ => qad _) fun h3 => ?_
 have hb := qv7 (n := b) (by
  rw [hr3]
  simpa using h3)
 refine qaE (fun _ => qbb (qlA _) fun _ _ => qaE (fun _ => qad _) fun _ => qad _) fun _ => qaE (fun _ => qbb (qlA _) fun _ _ => qaE (fun _ => qad _) fun _ => qad _) fun _ => qaE (fun _ => qbb (qlA _) fun _ _ => qaE (fun _ => qad _) fun _ => qad _) fun _ => qaE (fun _ => qad _) fun hz => ?_
 refine qbb (qv8 a b (by simpa using hz) hb) fun _ _ => qaE (fun _ => qbb (qlA _) fun _ _ => qaE (fun _ => qad _) fun _ => qad _) fun _ => qbb (qlA _) fun _ _ => qaE (fun _ => qad _) fun _ => qad _
theorem args2 {α : Type} {l : List α} (h : (l.length : Int) = 2) : ∃ a b, l = [a, b] := by
 have h : l.length = 2 := by omega
 match l, h with
 | [a, b], _ => exact ⟨a, b, rfl⟩
theorem qmE : ∀ (fuel : Nat) (t : T), wt t < fuel → ∃ r, qcC fuel t = some r
 | 0, _, h => absurd h (vm _)
 | fuel + 1, t, h => by
  rw [qcC]
  dsimp only
  refine qaE (fun _ => qbb (qlA _) fun _ _ => qaE (fun _ => qad _) fun _ => qad _) fun _ => qaE (fun _ => qad _) fun _ => qaE (fun _ => qad _) fun _ => qbb (qsf _) fun _ _ => qaE (fun _ => qad _) fun _ => qaE (fun _ => qad _) fun hl => ?_
  obtain ⟨a, b, hab⟩ := args2 (l := t.ar) (by simpa using hl)
  have ha := qvg (t := t) (u := a) (by rw [hab]; simp)
  have hb := qvg (t := t) (u := b) (by rw [hab]; simp)
  rw [hab]
  refine qbb (qad a) fun q hq => ?_
  obtain rfl := Option.some.inj hq
  refine qbb (qmE fuel a (by omega)) fun _ _ => qaE (fun _ => qad _) fun _ => qbb (qad b) fun q hq => ?_
  obtain rfl := Option.some.inj hq
  exact qbb (qmE fuel b (by omega)) fun _ _ => qaE (fun _ => qad _) fun _ => qbb (qxo _ _ _) fun _ _ => qad _
theorem qlf : ∀ (fuel : Nat) (t : T), wt t < fuel → ∃ r, qcx fuel t = some r
 | 0, _, h => absurd h (vm _)
 | fuel + 1, t, h => by
  rw [qcx]
  dsimp only
  refine qaE (fun _ => qad _) fun _ => qaE (fun _ => qad _) fun _ => qaE (fun _ => qbb (qv9 _) fun _ _ => qaE (fun _ => qaE (fun hl => ?_) fun _ => qad _) fun _ => qad _) fun _ => qad _
  obtain ⟨a, b, hab⟩ := args2 (l := t.ar) (by simpa using hl)
  have ha := qvg (t := t) (u := a) (by rw [hab]; simp)
  have hb := qvg (t := t) (u := b) (by rw [hab]; simp)
  rw [hab]
  refine qbb (qad a) fun q hq => ?_
  obtain rfl := Option.some.inj hq
  refine qbb (qlf fuel a (by omega)) fun _ _ => qaE (fun _ => qbb (qad b) fun q hq => ?_) fun _ => qad _
  obtain rfl := Option.some.inj hq
  exact qbb (qlf fuel b (by omega)) fun _ _ => qad _
theorem qrL (fuel : Nat) (t : T) (h : wt t < fuel) (hm : wt t ≤ 1000000000) : qc5 fuel t = some (yj [] (yh t)) := by
 unfold qc5
 rw [qtI fuel t [] h (by simpa using hm), ja]
theorem qmP (fuel : Nat) (t : T) (h : wt t < fuel) (hm : wt t ≤ 1000000000) : ∃ b, qcH fuel t = some b := by
 unfold qcH
 rw [qrL fuel t h hm, ja]
 exact ⟨_, rfl⟩
theorem qy3 (b : Bool) : qU b = some (if b = true then 1 else 2) := by
 cases b <;> rfl
theorem qhN (b : Bool) : ∃ r, qU b = some r := ⟨_, qy3 b⟩
theorem qvi (fuel : Nat) (op : Int) (a b : T) (ha : wt a < fuel) (hb : wt b < fuel) (ha2 : wt a ≤ 1000000000) (hb2 : wt b ≤ 1000000000) : ∃ r, qdU fuel op a b = some r := by
 unfold qdU
 refine qbb (qlf fuel a ha) fun _ _ => qaE (fun _ => qad _) fun _ => qbb (qlf fuel b hb) fun _ _ => qaE (fun _ => qad _) fun _ => qbb (qmP fuel a ha (by omega)) fun _ _ => qaE (fun _ => qad _) fun _ => qbb (qmP fuel b hb (by omega)) fun _ _ => qaE (fun _ => qad _) fun _ => qbb (qmE fuel a ha) fun _ _ => qbb (qmE fuel b hb) fun _ _ => qaE (fun _ => qad _) fun _ => qaE (fun _ => qad _) fun _ => qaE (fun _ => qbb (qhN _) fun _ _ => qad _) fun _ => qaE (fun _ => qbb (qhN _) fun _ _ => qad _) fun _ => qaE (fun _ => qbb (qhN _) fun _ _ => qad _) fun _ => qbb (qhN _) fun _ _ => qad _
/-! ### Test -/
theorem qsL (g : Gl) (h : wtL g.ts ≤ 1000000000) : qda g = some (decide (5 ≤ g.op ∧ g.op ≤ 12) && zz g) := by
 unfold qda
 by_cases h1 : g.op ≥ 5
 · rw [decide_eq_true h1, cond_true]
   by_cases h2 : g.op ≤ 12
   · rw [decide_eq_true h2, cond_true, qhf g (by omega), ja, decide_eq_true ⟨h1, h2⟩, jR]
   · rw [decide_eq_false h2, cond_false, decide_eq_false fun h => h2 h.2, Bool.false_and]
 · rw [decide_eq_false h1, cond_false, decide_eq_false fun h => h1 h.1, Bool.false_and]
theorem qmI {g : Gl} (h0 : g.op ≠ 0) (h : zz g = true) : yD g.op = (g.ts.length : Int) ∧ zY g.ts = true := by
 unfold zz at h
 rw [if_neg h0] at h
 simp only [jj, decide_eq_true_eq] at h
 exact ⟨h.1.2, h.2⟩
theorem qzi (fuel : Nat) (hf : 1500000000 < fuel) (g : Gl) (h : wtL g.ts ≤ 300000000) : ∃ r, qdK fuel g = some r := by
 unfold qdK
 rw [qsL g (by omega), ja]
 refine qaE (fun _ => qaE (fun _ => qbb ⟨_, qhf g (by omega)⟩ fun _ _ => qbb (qhN _) fun _ _ => qad _) fun _ => qbb (qhN _) fun _ _ => qad _) fun hT => ?_
 have hT : (5 ≤ g.op ∧ g.op ≤ 12) ∧ zz g = true := by
  simpa only [Bool.not_eq_false', jj, decide_eq_true_eq] using hT
 obtain ⟨⟨h5, h12⟩, hr⟩ := hT
 obtain ⟨hlen, _⟩ := qmI (by omega) hr
 have hpos : 0 < g.ts.length := by
  unfold yD at hlen
  repeat' split at hlen
  all_goals omega
 obtain ⟨a, ha, ham⟩ := yw (l := g.ts) (i := 0) (by omega) (by omega)
 have hwa := qff ham
 rw [ha, ja]
 refine qaE (fun _ => qaE (fun _ => qad _) fun _ => qbb (qhN _) fun _ _ => qad _) fun h11 => qaE (fun _ => qbb (qmP fuel a (by omega) (by omega)) fun _ _ => qaE (fun _ => qad _) fun _ => qad _) fun h12' => ?_
 have e11 : g.op ≠ 11 := by simpa using h11
 have e12 : g.op ≠ 12 := by simpa using h12'
 have h2 : g.ts.length = 2 := by
  unfold yD at hlen
  repeat' split at hlen
  all_goals omega
 obtain ⟨b, hb, hbm⟩ := yw (l := g.ts) (i := 1) (by omega) (by omega)
 have hwb := qff hbm
 have uni : ∃ r, ((qbR fuel a b).bind fun r_23 => (bif (!r_23) then ((qU (g.op == (6 : Int))).bind fun r_25 => some (r_25)) else some (0))) = some r := qbb (qqE fuel hf a b (by omega) (by omega)) fun _ _ => qaE (fun _ => qbb (qhN _) fun _ _ => qad _) fun _ => qad _
 have sam : ∃ r, ((qlN a b).bind fun r_20 => (bif r_20 then ((qU (g.op == (5 : Int))).bind fun r_22 => some (r_22)) else ((qbR fuel a b).bind fun r_23 => (bif (!r_23) then ((qU (g.op == (6 : Int))).bind fun r_25 => some (r_25)) else some (0))))) = some r := qbb ⟨_, qqi a b (by omega)⟩ fun _ _ => qaE (fun _ => qbb (qhN _) fun _ _ => qad _) fun _ => uni
 rw [hb, ja]
 exact qaE (fun _ => qaE (fun _ => qbb (qvi fuel g.op a b (by omega) (by omega) (by omega) (by omega)) fun _ _ => qad _) fun _ => sam) fun _ => sam
theorem qsN {t : T} (h : t.k = 1) : yh t = [t.i] := qrj h
theorem qsC {t : T} (h : t.k = 2) : yh t = zw t.ar := by cases t; simp only [T.k] at h; subst h; simp [yh, T.ar]
theorem qB4 {t : T} (h1 : t.k ≠ 1) (h2 : t.k ≠ 2) : yh t = [] := by cases t; simp only [T.k] at h1 h2; simp [yh, h1, h2]
theorem qnz {β : Type} : ∀ (l m : List (Int × β)) (v : Int), zp (l ++ m) v = (zp l v).or (zp m v)
 | [], m, v => rfl
 | q :: l, m, v => by
  rw [jz, zp, zp]
  split
  · rfl
  · exact qnz l m v
abbrev En := List (Int × T)
/-! ### environments -/
theorem quX (v : Int) (k : Option Int) : ∀ (l : En) (i : Nat), (zp l v = none ∧ qaU k v l i = k) ∨ ∃ (j : Nat) (q : Int × T), qaU k v l i = some ((i + j : Nat) : Int) ∧ l[j]? = some q ∧ zp l v = some q.2
 | [], i => .inl ⟨rfl, by rw [qaU]⟩
 | q :: l, i => by
  rw [qaU, zp]
  by_cases h : q.1 = v
  · rw [if_pos h, uT h, cond_true]
    exact .inr ⟨0, q, rfl, rfl, rfl⟩
  · rw [if_neg h, uF h, cond_false]
    rcases quX v k l (i + 1) with h | ⟨j, p, h1, h2, h3⟩
    · exact .inl h
    · exact .inr ⟨j + 1, p, by rw [h1, show i + 1 + j = i + (j + 1) by omega], by simpa using h2, h3⟩
theorem qum (env : En) (v : Int) : (zp env v = none ∧ qdj env v = some (-1)) ∨ ∃ (r : Int) (q : Int × T), qdj env v = some r ∧ 0 ≤ r ∧ zj env r = some q ∧ zp env v = some q.2 ∧ q ∈ env := by
 rcases quX v (some (-1)) env 0 with h | ⟨j, q, h1, h2, h3⟩
 · exact .inl h
 · rw [jt] at h1
   exact .inr ⟨_, q, h1, by omega, by rw [qdy]; exact h2, h3, List.mem_of_getElem? h2⟩
theorem qsa (k : Int → Option En) (b : Int × T) : ∀ (l : En) (i : Nat), ∃ j : Nat, i ≤ j ∧ j ≤ i + l.length ∧ qbe k b l i = k (j : Int)
 | [], i => ⟨i, jk _, jk _, by rw [qbe]⟩
 | x :: l, i => by
  rw [qbe, jg]
  by_cases h : x.1 ≤ b.1
  · obtain ⟨j, h1, h2, e⟩ := qsa k b l (i + 1)
    exact ⟨j, by omega, by omega, by rw [decide_eq_true h, cond_true, e]⟩
  · exact ⟨i, jk _, by omega, by rw [decide_eq_false h, cond_false]⟩
def upd (f : Int → Option T) (v : Int) (u : T) : Int → Option T := fun x => if x = v then some u else f x
theorem qvA (l : En) (j : Nat) (v : Int) : zp l v = (zp (l.take j) v).or (zp (l.drop j) v) := by rw [← qnz, j7]
theorem qxh (env : En) (v : Int) (u : T) (hl : env.length ≤ 1000000) (h : zp env v = none) : ∃ env', qdV env (v, u) = some env' ∧ env'.length = env.length + 1 ∧ zp env' = upd (zp env) v u ∧ ∀ q ∈ env', q ∈ env ∨ q = (v, u) := by
 unfold qdV
 obtain ⟨j, _, hj, e⟩ := qsa (fun k_3 => ((yt env 0 k_3).bind fun l_5 => ((zN 64 [] l_5).bind fun l_6 => ((zN 64 l_6 [(v, u)]).bind fun l_8 => ((yt env k_3 (env.length : Int)).bind fun l_10 => ((zN 64 l_8 l_10).bind fun l_11 => some (l_11))))))) (v, u) env 0
 have h1 : yt env 0 (j : Int) = some (env.take j) := by
  unfold yt
  rw [if_pos (by omega)]
  simp
 have h2 : yt env (j : Int) (env.length : Int) = some (env.drop j) := by
  unfold yt
  rw [if_pos (by omega)]
  simp
 refine ⟨env.take j ++ [(v, u)] ++ env.drop j, ?_, by simp; omega, funext fun x => ?_, fun q hq => ?_⟩
 · rw [e, h1, ja, qlZ (by omega) (by simp; omega), ja, jo, qlZ (by omega) (by simp; omega), ja, h2, ja, qlZ (by omega) (by simp; omega), ja]
 · have hs := qvA env j
   rw [ji, qnz, qnz]
   unfold upd
   by_cases hx : x = v
   · subst hx
     have h0 := hs x
     rw [h] at h0
     have h3 : zp (env.take j) x = none := by
      cases hc : zp (env.take j) x with
      | none => rfl
      | some a =>
       rw [hc] at h0
       cases h0
     rw [h3, if_pos rfl]
     simp [zp]
   · rw [if_neg hx, hs x]
     have : zp [(v, u)] x = none := by
      rw [zp, if_neg (fun e => hx e.symm), zp]
     rw [this, Option.none_or]
 · simp only [jn, jm] at hq
   rcases hq with (hq | hq) | hq
   · exact .inl (vg hq)
   · exact .inr hq
   · exact .inl (vh hq)
/-! ### what stands where a pattern has its variables -/
open Classical in
mutual
def vT : T → T → Option (List T)
 | .mk k i s ar, t => if k = 2 then (if t.k = 2 ∧ s = t.s then vL ar t.ar else none) else if k = 1 then some [t] else if yO (.mk k i s ar) t = true then some [] else none
def vL : List T → List T → Option (List T)
 | [], [] => some []
 | p :: ps, t :: ts => (vT p t).bind fun a => (vL ps ts).bind fun b => some (a ++ b)
 | [], _ :: _ => none
 | _ :: _, [] => none
end
theorem qwE {p : T} (h : p.k = 2) (t : T) : vT p t = if t.k = 2 ∧ p.s = t.s then vL p.ar t.ar else none := by
 cases p
 simp only [T.k] at h
 subst h
 rw [vT, if_pos rfl]
 rfl
theorem qwj {p : T} (h : p.k = 1) (t : T) : vT p t = some [t] := by
 cases p
 simp only [T.k] at h
 subst h
 rw [vT, if_neg (by omega), if_pos rfl]
theorem qxP {p : T} (h1 : p.k ≠ 1) (h2 : p.k ≠ 2) (t : T) : vT p t = if yO p t = true then some [] else none := by
 cases p
 simp only [T.k] at h1 h2
 rw [vT, if_neg h2, if_neg h1]
mutual
theorem qt4 : ∀ (p t : T) (l : List T), vT p t = some l → l.length = (yh p).length
 | .mk k i s ar, t, l, h => by
  rcases zaa k with h1 | h2 | ⟨h1, h2⟩
  · subst h1
    rw [qwj rfl] at h
    obtain rfl := Option.some.inj h
    rw [qA1]
    rfl
  · subst h2
    rw [qwE rfl] at h
    split at h
    · rw [qAi]
      exact qxF ar t.ar l h
    · cases h
  · rw [qxP (p := .mk k i s ar) h1 h2] at h
    split at h
    · obtain rfl := Option.some.inj h
      rw [qBa h1 h2]
      rfl
    · cases h
theorem qxF : ∀ (ps ts l : List T), vL ps ts = some l → l.length = (zw ps).length
 | [], [], l, h => by
  rw [vL] at h
  obtain rfl := Option.some.inj h
  rfl
 | p :: ps, t :: ts, l, h => by
  rw [vL] at h
  cases ha : vT p t with
  | none =>
   rw [ha] at h
   cases h
  | some a =>
   cases hb : vL ps ts with
   | none =>
    rw [ha, hb] at h
    cases h
   | some b =>
    rw [ha, hb] at h
    obtain rfl := Option.some.inj h
    rw [zw, jf, jf, qt4 p t a ha, qxF ps ts b hb]
 | [], _ :: _, l, h => by
  rw [vL] at h
  cases h
 | _ :: _, [], l, h => by
  rw [vL] at h
  cases h
end
/-! ### binding -/
open Classical in
def rn : (Int → Option T) → List (Int × T) → Option (Int → Option T)
 | f, [] => some f
 | f, (v, u) :: ps => match f v with
  | none => rn (upd f v u) ps
  | some u' => if yO u' u = true then rn f ps else none
theorem qn3 {f : Int → Option T} {v : Int} (h : f v = none) (u : T) (ps : List (Int × T)) : rn f ((v, u) :: ps) = rn (upd f v u) ps := by rw [rn, h]
theorem qob {f : Int → Option T} {v : Int} {w : T} (h : f v = some w) (u : T) (ps : List (Int × T)) : rn f ((v, u) :: ps) = if yO w u = true then rn f ps else none := by rw [rn, h]
theorem qxO : ∀ (a b : List (Int × T)) (f : Int → Option T), rn f (a ++ b) = (rn f a).bind fun g => rn g b
 | [], b, f => by rw [jo, rn, ja]
 | (v, u) :: a, b, f => by
  cases h : f v with
  | none => rw [jz, qn3 h, qn3 h, qxO a b]
  | some w =>
   rw [jz, qob h, qob h]
   split
   · exact qxO a b f
   · rfl
def mtc (f : Int → Option T) (o : List Int) (v : Option (List T)) : Option (Int → Option T) := v.bind fun l => rn f (o.zip l)
theorem qAE {f : Int → Option T} {o1 o2 : List Int} {v1 v2 : Option (List T)} (h : ∀ l, v1 = some l → l.length = o1.length) : mtc f (o1 ++ o2) (v1.bind fun a => v2.bind fun b => some (a ++ b)) = (mtc f o1 v1).bind fun g => mtc g o2 v2 := by
 unfold mtc
 cases v1 with
 | none => rfl
 | some a =>
  have ha := h a rfl
  cases v2 with
  | none =>
   simp only [ja, Option.bind_none]
   cases rn f (o1.zip a) <;> rfl
  | some b =>
   simp only [ja]
   rw [List.zip_append ha.symm, qxO]
def EnW (W : Nat) (env : En) : Prop := ∀ q ∈ env, wt q.2 ≤ W
def zbO (W : Nat) (env : En) (n : Nat) (x : Option (Int → Option T)) (r : Option (En × Bool)) : Prop := ∃ env' ok, r = some (env', ok) ∧ ((ok = false ∧ x = none) ∨ (ok = true ∧ x = some (zp env') ∧ env'.length ≤ env.length + n ∧ EnW W env'))
theorem qxn (a b : T) (h : wt a ≤ 1000000) : qlN a b = some (yO a b) := qqi a b (by omega)
theorem qAa {W : Nat} (hW : W ≤ 1000000) {rec : En → List T → List T → Option (En × Bool)} {p t : T} {env : En} (hr : p.k = 2 → t.k = 2 → zbO W env (zw p.ar).length (mtc (zp env) (zw p.ar) (vL p.ar t.ar)) (rec env p.ar t.ar)) (he : EnW W env) (hp : wt p ≤ 1000000) (ht : wt t ≤ W) (hl : env.length ≤ 1000000) :
 zbO W env (yh p).length (mtc (zp env) (yh p) (vT p t)) (qec rec env p t) := by
 unfold qec
 rcases zaa p.k with h1 | h2 | ⟨h1, h2⟩
 · rw [uF (show p.k ≠ 2 by omega), cond_false, show (p.k != (1 : Int)) = false by simp [h1], cond_false, qwj h1, qsN h1]
   unfold mtc
   rw [ja]
   show zbO W env 1 (rn (zp env) [(p.i, t)]) _
   rcases qum env p.i with ⟨hn, e⟩ | ⟨r, q, e, h0, hq, hm, hqm⟩
   · rw [e, ja, decide_eq_true (by omega), cond_true, qn3 hn]
     obtain ⟨env', e', hl', hg, hmem⟩ := qxh env p.i t hl hn
     refine ⟨env', true, by rw [e', ja], .inr ⟨rfl, by rw [rn, hg], by omega, fun q hq => ?_⟩⟩
     rcases hmem q hq with hq | rfl
     · exact he q hq
     · exact ht
   · have hqw := he q hqm
     rw [e, ja, decide_eq_false (by omega), cond_false, hq, ja, qxn _ _ (by omega), ja, qob hm]
     cases hs : yO q.2 t with
     | false => exact ⟨_, _, rfl, .inl ⟨rfl, rfl⟩⟩
     | true => exact ⟨_, _, rfl, .inr ⟨rfl, by rw [if_pos rfl, rn], by omega, he⟩⟩
 · rw [uT h2, cond_true, qwE h2, qsC h2]
   by_cases ht2 : t.k = 2
   · rw [show (t.k != (2 : Int)) = false by simp [ht2], cond_false]
     by_cases hs : p.s = t.s
     · rw [if_pos ⟨ht2, hs⟩, show (!(p.s.toList == t.s.toList)) = false by simp [hs], cond_false]
       obtain ⟨env', ok, e, h⟩ := hr h2 ht2
       exact ⟨env', ok, by rw [e, ja], h⟩
     · rw [if_neg fun h => hs h.2, show (!(p.s.toList == t.s.toList)) = true by
        simp only [vP, beq_eq_false_iff_ne]
        exact fun e => hs (qm6 e), cond_true]
       exact ⟨_, _, rfl, .inl ⟨rfl, rfl⟩⟩
   · rw [show (t.k != (2 : Int)) = true by simp [ht2], cond_true, if_neg fun h => ht2 h.1]
     exact ⟨_, _, rfl, .inl ⟨rfl, rfl⟩⟩
 · rw [uF h2, cond_false, show (p.k != (1 : Int)) = true by simp [h1], cond_true, qxP h1 h2, qB4 h1 h2, qxn _ _ hp, ja]
   cases hs : yO p t with
   | false => exact ⟨_, _, rfl, .inl ⟨rfl, rfl⟩⟩
   | true => exact ⟨_, _, rfl, .inr ⟨rfl, by rw [if_pos rfl]; rfl, by omega, he⟩⟩
theorem quO {W : Nat} (hW : W ≤ 1000000) {rec : En → List T → List T → Option (En × Bool)} (all : List T) (N : Nat) (hN : N ≤ 1000000) :
 ∀ (ps ts : List T) (i : Nat) (env : En), all.drop i = ps → ps.length = ts.length → (∀ p ∈ ps, ∀ t ∈ ts, ∀ env : En, EnW W env → env.length + (zw p.ar).length ≤ N → p.k = 2 → t.k = 2 → zbO W env (zw p.ar).length (mtc (zp env) (zw p.ar) (vL p.ar t.ar)) (rec env p.ar t.ar)) → EnW W env → (∀ p ∈ ps, wt p ≤ 1000000) → (∀ t ∈ ts, wt t ≤ W) → env.length + (zw ps).length ≤ N →
  zbO W env (zw ps).length (mtc (zp env) (zw ps) (vL ps ts)) (qag (fun env_5 ok_6 => some (env_5, ok_6)) rec all ts env true i)
 | [], [], i, env, _, _, _, he, _, _, _ => by
  rw [qag, vL]
  exact ⟨env, true, rfl, .inr ⟨rfl, rfl, by omega, he⟩⟩
 | [], _ :: _, i, env, _, h, _, _, _, _, _ => by cases h
 | _ :: _, [], i, env, _, h, _, _, _, _, _ => by cases h
 | p :: ps, t :: ts, i, env, hd, hl, hr, he, hp, ht, hn => by
  rw [zw, jf] at hn
  have hi : i < all.length := by
   rcases Nat.lt_or_ge i all.length with h | h
   · exact h
   · rw [j2 h] at hd
     cases hd
  rw [jV hi] at hd
  obtain ⟨hd1, hd2⟩ := List.cons.inj hd
  have hg : zj all (i : Int) = some p := by rw [qdy, jq hi, hd1]
  have hfun : p.k = 2 → (zw p.ar).length = (yh p).length := fun h => by rw [qsC h]
  obtain ⟨env1, ok1, e1, h1⟩ := qAa hW (rec := rec) (p := p) (t := t) (env := env) (fun h2 ht2 => hr p (jd ..) t (jd ..) env he (by have := hfun h2; omega) h2 ht2) he (hp p (jd ..)) (ht t (jd ..)) (by omega)
  rw [qag, cond_true, hg, ja, e1, ja, vL, zw, qAE fun l hl => qt4 p t l hl]
  dsimp only
  rcases h1 with ⟨rfl, hx⟩ | ⟨rfl, hx, hlen, he1⟩
  · refine ⟨env1, false, ?_, .inl ⟨rfl, by rw [hx]; rfl⟩⟩
    cases ts with
    | nil => rw [qag]
    | cons t2 ts => rw [qag, cond_false]
  · rw [hx, ja]
    obtain ⟨env2, ok2, e2, h2⟩ := quO hW all N hN ps ts (i + 1) env1 hd2 (by simpa using hl) (fun p hp t ht => hr p (je _ hp) t (je _ ht)) he1 (fun p h => hp p (je _ h)) (fun t h => ht t (je _ h)) (by omega)
    refine ⟨env2, ok2, e2, h2.imp id fun ⟨a, b, c, d⟩ => ⟨a, b, ?_, d⟩⟩
    rw [jf]
    omega
theorem qyb : ∀ (ps ts : List T), ps.length ≠ ts.length → vL ps ts = none
 | [], [], h => absurd rfl h
 | p :: ps, t :: ts, h => by
  rw [vL, qyb ps ts (by simpa using h)]
  cases vT p t <;> rfl
 | [], _ :: _, _ => by rw [vL]
 | _ :: _, [], _ => by rw [vL]
theorem quz {W : Nat} (hW : W ≤ 1000000) (N : Nat) (hN : N ≤ 1000000) : ∀ (fuel : Nat) (ps ts : List T) (env : En), wtL ps < fuel → wtL ps ≤ 1000000 → wtL ts ≤ W → EnW W env → env.length + (zw ps).length ≤ N →
 zbO W env (zw ps).length (mtc (zp env) (zw ps) (vL ps ts)) (qdk fuel env ps ts)
 | 0, _, _, _, h, _, _, _, _ => absurd h (vm _)
 | fuel + 1, ps, ts, env, hf, hp, ht, he, hn => by
  rw [qdk]
  dsimp only
  by_cases h : ps.length = ts.length
  · rw [show ((ps.length : Int) != (ts.length : Int)) = false by simp [h], cond_false]
    refine quO hW ps N hN ps ts 0 env rfl h (fun p hpm t htm env he hn h2 ht2 => ?_) he (fun p hpm => by have := qff hpm; omega) (fun t htm => by have := qff htm; omega) hn
    have h1 := qff hpm
    have h3 := qff htm
    have h4 := qhe p
    have h5 := qhe t
    exact quz hW N hN fuel p.ar t.ar env (by omega) (by omega) (by omega) he hn
  · rw [show ((ps.length : Int) != (ts.length : Int)) = true by simp; omega, cond_true, qyb ps ts h]
    exact ⟨_, _, rfl, .inl ⟨rfl, rfl⟩⟩
theorem qAo {W : Nat} (hW : W ≤ 1000000) (fuel : Nat) (p a : At) (env : En) (hf : wtL p.ts < fuel) (hp : wtL p.ts ≤ 1000000) (ha : wtL a.ts ≤ W) (he : EnW W env) (hn : env.length + (zw p.ts).length ≤ 1000000) :
 zbO W env (zw p.ts).length (mtc (zp env) (zw p.ts) (if p.n = a.n then vL p.ts a.ts else none)) (qeo fuel env p a) := by
 unfold qeo
 by_cases h : p.n = a.n
 · rw [if_pos h, show (!(p.n.toList == a.n.toList)) = false by simp [h], cond_false]
   obtain ⟨env', ok, e, h⟩ := quz hW 1000000 (jk _) fuel p.ts a.ts env hf hp ha he hn
   exact ⟨env', ok, by rw [e, ja], h⟩
 · rw [if_neg h, show (!(p.n.toList == a.n.toList)) = true by
    simp only [vP, beq_eq_false_iff_ne]
    exact fun e => h (qm6 e), cond_true]
   exact ⟨_, _, rfl, .inl ⟨rfl, rfl⟩⟩
/-! ### a function ends with a value of a kind -/
def Yl {α : Type} (x : Option α) (Q : α → Prop) : Prop := ∃ a, x = some a ∧ Q a
theorem Yl.pure {α : Type} {a : α} {Q : α → Prop} (h : Q a) : Yl (some a) Q := ⟨a, rfl, h⟩
theorem Yl.bind {α β : Type} {x : Option α} {R : α → Prop} {f : α → Option β} {Q : β → Prop} (h : Yl x R) (hf : ∀ a, R a → Yl (f a) Q) : Yl (x.bind f) Q := by
 obtain ⟨a, rfl, ha⟩ := h
 exact hf a ha
theorem Yl.cond {α : Type} {b : Bool} {x y : Option α} {Q : α → Prop} (h1 : b = true → Yl x Q) (h2 : b = false → Yl y Q) : Yl (bif b then x else y) Q := by
 cases b with
 | true => exact h1 rfl
 | false => exact h2 rfl
theorem Yl.mono {α : Type} {x : Option α} {Q R : α → Prop} (h : Yl x Q) (k : ∀ a, Q a → R a) : Yl x R := by
 obtain ⟨a, e, ha⟩ := h
 exact ⟨a, e, k a ha⟩
theorem Yl.of {α : Type} {x : Option α} {a : α} {Q : α → Prop} (e : x = some a) (h : Q a) : Yl x Q := ⟨a, e, h⟩
theorem dT {p : Prop} [Decidable p] (h : decide p = true) : p := of_decide_eq_true h
theorem dF {p : Prop} [Decidable p] (h : decide p = false) : ¬ p := of_decide_eq_false h
theorem nF {b : Bool} (h : (!b) = false) : b = true := by simpa using h
theorem eT {a b : Int} (h : (a == b) = true) : a = b := by simpa using h
theorem eF {a b : Int} (h : (a == b) = false) : a ≠ b := by simpa using h
theorem bT {a b : Int} (h : (a != b) = true) : a ≠ b := by simpa using h
theorem bF {a b : Int} (h : (a != b) = false) : a = b := by simpa using h
/-! ### looking up -/
theorem qsq (v : Int) : ∀ b : En, qbi (some ((T.mk 0 0 ⟨#[]⟩ []), false)) v b = some ((zp b v).getD (T.mk 0 0 ⟨#[]⟩ []), (zp b v).isSome)
 | [] => by rw [qbi]; rfl
 | q :: b => by
  rw [qbi, zp, qsq v b]
  by_cases h : q.1 = v
  · rw [if_pos h, uT h, cond_true]
    rfl
  · rw [if_neg h, uF h, cond_false]
theorem qml (b : En) (v : Int) : qcG b v = some ((zp b v).getD (T.mk 0 0 ⟨#[]⟩ []), (zp b v).isSome) := qsq v b
theorem qtP {b : En} {v : Int} {u : T} (h : zp b v = some u) : (v, u) ∈ b := by
 induction b with
 | nil => cases h
 | cons q b ih =>
  rw [zp] at h
  split at h
  · rename_i e
    cases h
    rw [← e]
    exact jd ..
  · exact je _ (ih h)
/-! ### substitutions -/
mutual
def apT (b : En) : T → T
 | .mk k i s ar => if k = 1 then (zp b i).getD (.mk k i s ar) else if k = 2 then .mk k i s (apL b ar) else .mk k i s ar
def apL (b : En) : List T → List T
 | [] => []
 | t :: ts => apT b t :: apL b ts
end
theorem qA4 {b : En} {t : T} (h : t.k = 1) : apT b t = (zp b t.i).getD t := by cases t; simp only [T.k] at h; subst h; simp [apT, T.i]
theorem qAJ {b : En} {t : T} (h : t.k = 2) : apT b t = .mk t.k t.i t.s (apL b t.ar) := by cases t; simp only [T.k] at h; subst h; simp [apT, T.i, T.s, T.ar, T.k]
theorem qAf {b : En} {t : T} (h1 : t.k ≠ 1) (h2 : t.k ≠ 2) : apT b t = t := by cases t; simp only [T.k] at h1 h2; simp [apT, h1, h2]
theorem qwu (t : T) : T.mk t.k t.i t.s t.ar = t := by cases t; rfl
theorem zby {rec : En → List T → Option (List T)} {b : En} {t : T} (hr : t.k = 2 → rec b t.ar = some (apL b t.ar)) : qc9 rec b t = some (apT b t) := by
 unfold qc9
 rcases zaa t.k with h1 | h2 | ⟨h1, h2⟩
 · rw [uT h1, cond_true, qml, ja, qA4 h1]
   cases zp b t.i with
   | none =>
    show some (T.mk t.k t.i t.s t.ar) = some t
    rw [qwu]
   | some u => rfl
 · rw [uF (show t.k ≠ 1 by omega), cond_false, uT h2, cond_true, hr h2, ja, qAJ h2]
 · rw [uF h1, cond_false, uF h2, cond_false, qwu, qAf h1 h2]
theorem qsX {rec : En → List T → Option (List T)} {b : En} : ∀ (l out : List T), (∀ t ∈ l, t.k = 2 → rec b t.ar = some (apL b t.ar)) → out.length + l.length ≤ 10000000000 → qae (fun out_7 => some out_7) rec b l out = some (out ++ apL b l)
 | [], out, _, _ => by rw [qae, apL, jx]
 | t :: l, out, hr, hl => by
  rw [jg] at hl
  rw [qae, zby (hr t (jd ..)), ja, qg5 (by omega) hl, ja, qsX l _ (fun u h => hr u (je _ h)) (by rw [jf, jp]; omega), apL, ji, vz]
theorem qmu (b : En) : ∀ (fuel : Nat) (l : List T), wtL l < fuel → wtL l ≤ 10000000000 → qa5 fuel b l = some (apL b l)
 | 0, _, h, _ => absurd h (vm _)
 | fuel + 1, l, h, hw => by
  have := qf4 l
  rw [qa5]
  dsimp only
  rw [qsX l [] (fun t ht _ => ?_) (by simp; omega), jo]
  have h1 := qff ht
  have h3 := qhe t
  exact qmu b fuel t.ar (by omega) (by omega)
theorem qyr (b : En) (fuel : Nat) (t : T) (h : wt t < fuel) (hw : wt t ≤ 10000000000) : qfL fuel b t = some (apT b t) := by
 have := qhe t
 exact zby fun _ => qmu b fuel t.ar (by omega) (by omega)
theorem qoK (b : En) (fuel : Nat) (g : Gl) (h : wtL g.ts < fuel) (hw : wtL g.ts ≤ 10000000000) : qch fuel b g = some ⟨g.op, g.n, apL b g.ts⟩ := by
 rw [qch, qmu b fuel g.ts h hw, ja]
theorem qwp (b : En) (fuel : Nat) (a : At) (h : wtL a.ts < fuel) (hw : wtL a.ts ≤ 10000000000) : qdg fuel b a = some ⟨a.n, apL b a.ts⟩ := by
 rw [qdg, qmu b fuel a.ts h hw, ja]
mutual
theorem qBw {W : Nat} (hW : 1 ≤ W) {b : En} (hb : ∀ q ∈ b, wt q.2 ≤ W) : ∀ t : T, wt (apT b t) ≤ wt t * W
 | .mk k i s ar => by
  have hm : wt (.mk k i s ar) * 1 ≤ wt (.mk k i s ar) * W := vv _ hW
  rcases zaa k with h1 | h2 | ⟨h1, h2⟩
  · rw [qA4 (t := .mk k i s ar) h1]
    cases hu : zp b i with
    | none =>
     show wt ((zp b i).getD _) ≤ _
     rw [hu]
     show wt (.mk k i s ar) ≤ _
     omega
    | some u =>
     show wt ((zp b i).getD _) ≤ _
     rw [hu]
     have := hb _ (qtP hu)
     have h3 : 1 * W ≤ wt (.mk k i s ar) * W := jL _ (by rw [qhe]; omega)
     show wt u ≤ _
     simp only at this
     omega
  · rw [qAJ (t := .mk k i s ar) h2]
    have := qp3 hW hb ar
    rw [wt, wt, ju]
    show 1 + wtL (apL b ar) ≤ 1 * W + wtL ar * W
    omega
  · rw [qAf (t := .mk k i s ar) h1 h2]
    omega
theorem qp3 {W : Nat} (hW : 1 ≤ W) {b : En} (hb : ∀ q ∈ b, wt q.2 ≤ W) : ∀ l : List T, wtL (apL b l) ≤ wtL l * W
 | [] => by rw [apL, wtL]; omega
 | t :: l => by
  have h1 := qBw hW hb t
  have h2 := qp3 hW hb l
  rw [apL, wtL, wtL, ju]
  omega
end
/-! ### instances -/
mutual
def inT (f : Int → T) : T → T
 | .mk k i s ar => if k = 2 then .mk 2 0 s (inL f ar) else if k = 1 then f i else if k = 0 then .mk 0 i ⟨#[]⟩ [] else .mk k i s ar
def inL (f : Int → T) : List T → List T
 | [] => []
 | t :: ts => inT f t :: inL f ts
end
theorem qz7 (f : Int → T) {t : T} (h : t.k = 2) : inT f t = .mk 2 0 t.s (inL f t.ar) := by cases t; simp only [T.k] at h; subst h; rw [inT, if_pos rfl]; rfl
theorem qAk (f : Int → T) {t : T} (h : t.k = 1) : inT f t = f t.i := by cases t; simp only [T.k] at h; subst h; rw [inT, if_neg (by omega), if_pos rfl]; rfl
theorem qBb (f : Int → T) {t : T} (h1 : t.k ≠ 1) (h2 : t.k ≠ 2) : inT f t = if t.k = 0 then .mk 0 t.i ⟨#[]⟩ [] else t := by cases t; simp only [T.k] at h1 h2; rw [inT, if_neg h2, if_neg h1]; rfl
def ef (env : En) (fresh : Int) (v : Int) : T := (zp env v).getD (.mk 1 (if (qc8 fresh v) = some true then v else wr (fresh + v)) ⟨#[]⟩ [])
theorem qwv (a b : Int) : ∃ r, qc8 a b = some r := by
 unfold qc8
 cases (decide (a > 0)) <;> cases (decide (b > 0)) <;> cases (decide (wr (a + b) < 0)) <;> cases (decide (a < 0)) <;> cases (decide (b < 0)) <;> exact ⟨_, rfl⟩
theorem inst1 {rec : En → Int → List T → Option (List T)} {env : En} {fresh : Int} {t : T} (hr : t.k = 2 → rec env fresh t.ar = some (inL (ef env fresh) t.ar)) : qdi rec env fresh t = some (inT (ef env fresh) t) := by
 unfold qdi
 rcases zaa t.k with h1 | h2 | ⟨h1, h2⟩
 · rw [uF (show t.k ≠ 2 by omega), cond_false, uT h1, cond_true, qAk _ h1]
   unfold ef
   rcases qum env t.i with ⟨hn, e⟩ | ⟨r, q, e, h0, hq, hm, _⟩
   · obtain ⟨l, hl⟩ := qwv fresh t.i
     rw [e, ja, decide_eq_false (by omega), cond_false, hl, ja, hn]
     cases l with
     | true => rfl
     | false => rfl
   · rw [e, ja, decide_eq_true (by omega), cond_true, hq, ja, hm]
     rfl
 · rw [uT h2, cond_true, hr h2, ja, qz7 _ h2]
 · rw [uF h2, cond_false, uF h1, cond_false, qBb _ h1 h2]
   by_cases h0 : t.k = 0
   · rw [uT h0, cond_true, if_pos h0]
     rfl
   · rw [uF h0, cond_false, if_neg h0]
theorem qus {rec : En → Int → List T → Option (List T)} {env : En} {fresh : Int} : ∀ (ts out : List T), (∀ t ∈ ts, t.k = 2 → rec env fresh t.ar = some (inL (ef env fresh) t.ar)) → out.length + ts.length ≤ 10000000000 → qak (fun out_7 => some out_7) rec env fresh ts out = some (out ++ inL (ef env fresh) ts)
 | [], out, _, _ => by rw [qak, inL, jx]
 | t :: ts, out, hr, hl => by
  rw [jg] at hl
  rw [qak, inst1 (fun h => hr t (jd ..) h), ja, qg5 (by omega) hl, ja,
   qus ts _ (fun t h => hr t (je _ h)) (by rw [jf, jp]; omega), inL, ji, vz]
theorem qtW (env : En) (fresh : Int) : ∀ (fuel : Nat) (ts : List T), wtL ts < fuel → wtL ts ≤ 10000000000 → qcI fuel env fresh ts = some (inL (ef env fresh) ts)
 | 0, _, h, _ => absurd h (vm _)
 | fuel + 1, ts, h, hw => by
  have := qf4 ts
  rw [qcI]
  dsimp only
  rw [qus ts [] (fun t ht h2 => ?_) (by simp; omega), jo]
  have h1 := qff ht
  have h3 := qhe t
  exact qtW env fresh fuel t.ar (by omega) (by omega)
theorem qui (env : En) (fresh : Int) (fuel : Nat) (g : Gl) (h : wtL g.ts < fuel) (hw : wtL g.ts ≤ 10000000000) : qcm fuel env fresh g = some ⟨g.op, g.n, inL (ef env fresh) g.ts⟩ := by
 rw [qcm, qtW env fresh fuel g.ts h hw, ja]
mutual
theorem qCt {W : Nat} (hW : 1 ≤ W) {f : Int → T} (hf : ∀ v, wt (f v) ≤ W) : ∀ t : T, wt (inT f t) ≤ wt t * W
 | .mk k i s ar => by
  have hm : wt (.mk k i s ar) * 1 ≤ wt (.mk k i s ar) * W := vv _ hW
  have h3 : 1 * W ≤ wt (.mk k i s ar) * W := jL _ (by rw [qhe]; omega)
  rcases zaa k with h1 | h2 | ⟨h1, h2⟩
  · rw [qAk (t := .mk k i s ar) _ h1]
    have := hf (T.mk k i s ar).i
    omega
  · rw [qz7 (t := .mk k i s ar) _ h2]
    have := qu4 hW hf ar
    rw [wt, wt, ju]
    show 1 + wtL (inL f ar) ≤ 1 * W + wtL ar * W
    omega
  · rw [qBb (t := .mk k i s ar) _ h1 h2]
    split
    · rw [wt, wtL]
      omega
    · omega
theorem qu4 {W : Nat} (hW : 1 ≤ W) {f : Int → T} (hf : ∀ v, wt (f v) ≤ W) : ∀ l : List T, wtL (inL f l) ≤ wtL l * W
 | [] => by rw [inL, wtL]; omega
 | t :: l => by
  have h1 := qCt hW hf t
  have h2 := qu4 hW hf l
  rw [inL, wtL, wtL, ju]
  omega
end
theorem qBP {W : Nat} (hW : 1 ≤ W) {env : En} (he : EnW W env) (fresh v : Int) : wt (ef env fresh v) ≤ W := by
 unfold ef
 cases h : zp env v with
 | none =>
  show wt (T.mk 1 _ _ []) ≤ W
  rw [wt, wtL]
  omega
 | some u => exact he _ (qtP h)
/-! ### sizes -/
mutual
def szT (f : Int → Nat) : T → Nat
 | .mk k i _ ar => if k = 1 then f i else if k = 2 then 1 + szL f ar else 1
def szL (f : Int → Nat) : List T → Nat
 | [] => 0
 | t :: ts => szT f t + szL f ts
end
theorem qtO (f : Int → Nat) {t : T} (h : t.k = 1) : szT f t = f t.i := by cases t; simp only [T.k] at h; subst h; simp [szT, T.i]
theorem qtr (f : Int → Nat) {t : T} (h : t.k = 2) : szT f t = 1 + szL f t.ar := by cases t; simp only [T.k] at h; subst h; simp [szT, T.ar]
theorem qtn (f : Int → Nat) {t : T} (h1 : t.k ≠ 1) (h2 : t.k ≠ 2) : szT f t = 1 := by cases t; simp only [T.k] at h1 h2; simp [szT, h1, h2]
theorem qmx {t : T} (h : t.k = 2) : zl t = 1 + zm t.ar := by rw [qiJ, T.used, if_pos h]
theorem qiF {t : T} (h : t.k ≠ 2) : zl t = 1 := by rw [qiJ, T.used, if_neg h, zm]
mutual
theorem qxS (f : Int → T) : ∀ t : T, zl (inT f t) = szT (fun v => zl (f v)) t
 | .mk k i s ar => by
  rcases zaa k with h1 | h2 | ⟨h1, h2⟩
  · rw [qAk (t := .mk k i s ar) _ h1, qtO (t := .mk k i s ar) _ h1]
  · rw [qz7 (t := .mk k i s ar) _ h2, qtr (t := .mk k i s ar) _ h2, qmx rfl]
    show 1 + zm (inL f ar) = 1 + szL (fun v => zl (f v)) ar
    rw [quG f ar]
  · rw [qBb (t := .mk k i s ar) _ h1 h2, qtn (t := .mk k i s ar) _ h1 h2]
    split
    · exact qiF (by simp [T.k])
    · exact qiF h2
theorem quG (f : Int → T) : ∀ l : List T, zm (inL f l) = szL (fun v => zl (f v)) l
 | [] => by rw [inL, zm, szL]
 | t :: l => by rw [inL, zm, szL, qxS f t, quG f l]
end
mutual
theorem qwy (b : En) : ∀ t : T, zl (apT b t) = szT (fun v => ((zp b v).map zl).getD 1) t
 | .mk k i s ar => by
  rcases zaa k with h1 | h2 | ⟨h1, h2⟩
  · rw [qA4 (t := .mk k i s ar) h1, qtO (t := .mk k i s ar) _ h1]
    show zl ((zp b i).getD _) = ((zp b i).map zl).getD 1
    cases zp b i with
    | none => exact qiF (t := T.mk k i s ar) (show k ≠ 2 by omega)
    | some u => rfl
  · rw [qAJ (t := .mk k i s ar) h2, qtr (t := .mk k i s ar) _ h2]
    show zl (T.mk k i s (apL b ar)) = _
    rw [qmx (t := T.mk k i s (apL b ar)) h2]
    show 1 + zm (apL b ar) = 1 + szL (fun v => ((zp b v).map zl).getD 1) ar
    rw [qul b ar]
  · rw [qAf (t := .mk k i s ar) h1 h2, qtn (t := .mk k i s ar) _ h1 h2, qiF (t := .mk k i s ar) h2]
theorem qul (b : En) : ∀ l : List T, zm (apL b l) = szL (fun v => ((zp b v).map zl).getD 1) l
 | [] => by rw [apL, zm, szL]
 | t :: l => by rw [apL, zm, szL, qwy b t, qul b l]
end
mutual
theorem qq8 {f g : Int → Nat} : ∀ t : T, (∀ v ∈ yh t, f v = g v) → szT f t = szT g t
 | .mk k i s ar, h => by
  rcases zaa k with h1 | h2 | ⟨h1, h2⟩
  · rw [qtO (t := .mk k i s ar) _ h1, qtO (t := .mk k i s ar) _ h1]
    exact h i (by rw [qsN (t := .mk k i s ar) h1]; exact jm.2 rfl)
  · rw [qtr (t := .mk k i s ar) _ h2, qtr (t := .mk k i s ar) _ h2]
    show 1 + szL f ar = 1 + szL g ar
    rw [qsc ar fun v hv => h v (by rw [qsC (t := .mk k i s ar) h2]; exact hv)]
  · rw [qtn (t := .mk k i s ar) _ h1 h2, qtn (t := .mk k i s ar) _ h1 h2]
theorem qsc {f g : Int → Nat} : ∀ l : List T, (∀ v ∈ zw l, f v = g v) → szL f l = szL g l
 | [], _ => by rw [szL, szL]
 | t :: l, h => by rw [szL, szL, qq8 t fun v hv => h v (by rw [zw]; exact js _ hv), qsc l fun v hv => h v (by rw [zw]; exact jy _ hv)]
end
mutual
theorem qzW : ∀ t : T, szT (fun _ => 1) t = zl t
 | .mk k i s ar => by
  rcases zaa k with h1 | h2 | ⟨h1, h2⟩
  · rw [qtO (t := .mk k i s ar) _ h1, qiF (t := .mk k i s ar) (show k ≠ 2 by omega)]
  · rw [qtr (t := .mk k i s ar) _ h2, qmx (t := .mk k i s ar) h2]
    show 1 + szL _ ar = 1 + zm ar
    rw [qx6 ar]
  · rw [qtn (t := .mk k i s ar) _ h1 h2, qiF (t := .mk k i s ar) h2]
theorem qx6 : ∀ l : List T, szL (fun _ => 1) l = zm l
 | [] => by rw [szL, zm]
 | t :: l => by rw [szL, zm, qzW t, qx6 l]
end
theorem qnD (t : T) : 1 ≤ zl t := by rw [qiJ]; omega
mutual
theorem qmT : ∀ t : T, zl (clean t) = zl t
 | .mk k i s ar => by
  have hk := qAV (.mk k i s ar)
  by_cases h2 : k = 2
  · rw [qmx (t := clean _) (by rw [hk]; exact h2), qmx (t := .mk k i s ar) h2, qt8, if_neg (show ¬ ((T.mk k i s ar).k = 1 ∨ (T.mk k i s ar).k = 0) from (show ¬ (k = 1 ∨ k = 0) by omega)), if_pos (show (T.mk k i s ar).k = 2 from h2)]
    show 1 + zm (yl ar) = 1 + zm ar
    rw [qnW ar]
  · rw [qiF (by rw [hk]; exact h2), qiF (t := .mk k i s ar) h2]
theorem qnW : ∀ l : List T, zm (yl l) = zm l
 | [] => by rw [yl]
 | t :: l => by rw [yl, zm, zm, qmT t, qnW l]
end
theorem qvc {a b : T} (h : yO a b = true) : clean a = clean b := (qso a b).1 (by unfold yO at h; simpa using h)
theorem qsj {a b : T} (h : yO a b = true) : zl a = zl b := by rw [← qmT a, qvc h, qmT]
mutual
theorem qxk : ∀ t : T, zK t = true → wt t = zl t
 | .mk k i s ar, h => by
  by_cases h2 : k = 2
  · subst h2
    rw [ql6 rfl, jj] at h
    rw [qmx rfl, wt]
    show 1 + wtL ar = 1 + zm ar
    rw [qqQ ar h.2]
  · have h0 : ar.length = 0 := by
     by_cases e : k = 0
     · subst e
       rw [ql8 rfl] at h
       exact (of_decide_eq_true h).2.2.2
     · by_cases e1 : k = 1
       · subst e1
         rw [qnS rfl] at h
         exact (of_decide_eq_true h).2.2.2
       · rw [qm4 (t := .mk k i s ar) e e1 h2] at h
         cases h
    rw [qiF (t := .mk k i s ar) h2, jB h0, wt, wtL]
theorem qqQ : ∀ l : List T, zI l = true → wtL l = zm l
 | [], _ => by rw [wtL, zm]
 | t :: l, h => by
  rw [zI, jj] at h
  rw [wtL, zm, qxk t h.1, qqQ l h.2]
end
theorem qn2 {l : List T} (h : zY l = true) : zI l = true ∧ wtL l ≤ 200 := by
 obtain ⟨h1, h2, _⟩ := (qqm l).1 h
 exact ⟨h1, by rw [qqQ l h1]; omega⟩
theorem qhI {t : T} (h : zM t = true) : zK t = true ∧ wt t ≤ 200 := by
 obtain ⟨h1, h2, _⟩ := (qvu t).1 h
 exact ⟨h1, by rw [qxk t h1]; omega⟩
theorem qgp {a : At} (h : zn a = true) : zI a.ts = true ∧ wtL a.ts ≤ 200 ∧ a.ts.length ≤ 6 := by
 unfold zn at h
 simp only [jj, decide_eq_true_eq] at h
 obtain ⟨h1, h2⟩ := qn2 h.2
 exact ⟨h1, h2, h.1.2⟩
theorem qhR {g : Gl} (h : zz g = true) : zI g.ts = true ∧ wtL g.ts ≤ 200 := by
 unfold zz at h
 split at h
 · have := qgp h
   exact ⟨this.1, this.2.1⟩
 · simp only [jj] at h
   exact qn2 h.2
/-! ### what fits has the size of the instance -/
theorem qnE : ∀ (l : List (Int × T)) (f g : Int → Option T), rn f l = some g → (∀ v u, f v = some u → g v = some u) ∧ ∀ q ∈ l, ∃ u, g q.1 = some u ∧ zl u = zl q.2
 | [], f, g, h => by
  rw [rn] at h
  cases h
  exact ⟨fun _ _ h => h, fun q hq => by cases hq⟩
 | (v, u) :: l, f, g, h => by
  cases hf : f v with
  | none =>
   rw [qn3 hf] at h
   obtain ⟨h1, h2⟩ := qnE l _ g h
   have hv : g v = some u := h1 v u (by unfold upd; rw [if_pos rfl])
   refine ⟨fun x w hx => h1 x w ?_, fun q hq => ?_⟩
   · unfold upd
     rw [if_neg (fun e => by rw [e, hf] at hx; cases hx)]
     exact hx
   · rcases jh.1 hq with rfl | hq
     · exact ⟨u, hv, rfl⟩
     · exact h2 q hq
  | some w =>
   rw [qob hf] at h
   split at h
   · rename_i hs
     obtain ⟨h1, h2⟩ := qnE l _ g h
     refine ⟨h1, fun q hq => ?_⟩
     rcases jh.1 hq with rfl | hq
     · exact ⟨w, h1 v w hf, qsj hs⟩
     · exact h2 q hq
   · cases h
def gz (g : Int → Option T) (v : Int) : Nat := ((g v).map zl).getD 1
mutual
theorem qxH (g : Int → Option T) : ∀ (p t : T) (l : List T), vT p t = some l → (∀ q ∈ (yh p).zip l, ∃ u, g q.1 = some u ∧ zl u = zl q.2) → zl t = szT (gz g) p
 | .mk k i s ar, t, l, h, hq => by
  rcases zaa k with h1 | h2 | ⟨h1, h2⟩
  · rw [qwj (p := .mk k i s ar) h1] at h
    cases h
    rw [qsN (t := .mk k i s ar) h1] at hq
    obtain ⟨u, hu, hs⟩ := hq ((T.mk k i s ar).i, t) (by simp)
    rw [qtO (t := .mk k i s ar) _ h1, gz, hu]
    exact hs.symm
  · rw [qwE (p := .mk k i s ar) h2] at h
    split at h
    · rename_i ht
      rw [qtr (t := .mk k i s ar) _ h2, qmx ht.1]
      rw [qsC (t := .mk k i s ar) h2] at hq
      exact congrArg (1 + ·) (qtw g ar t.ar l h hq)
    · cases h
  · rw [qxP (p := .mk k i s ar) h1 h2] at h
    split at h
    · rename_i hs
      rw [qtn (t := .mk k i s ar) _ h1 h2, ← qsj hs, qiF (t := .mk k i s ar) h2]
    · cases h
theorem qtw (g : Int → Option T) : ∀ (ps ts l : List T), vL ps ts = some l → (∀ q ∈ (zw ps).zip l, ∃ u, g q.1 = some u ∧ zl u = zl q.2) → zm ts = szL (gz g) ps
 | [], [], l, h, hq => by rw [zm, szL]
 | p :: ps, t :: ts, l, h, hq => by
  rw [vL] at h
  cases ha : vT p t with
  | none =>
   rw [ha] at h
   cases h
  | some a =>
   cases hb : vL ps ts with
   | none =>
    rw [ha, hb] at h
    cases h
   | some b =>
    rw [ha, hb] at h
    obtain rfl := Option.some.inj h
    have hl := qt4 p t a ha
    rw [zw, List.zip_append hl.symm] at hq
    rw [zm, szL, qxH g p t a ha fun q h => hq q (js _ h), qtw g ps ts b hb fun q h => hq q (jy _ h)]
 | [], _ :: _, l, h, _ => by
  rw [vL] at h
  cases h
 | _ :: _, [], l, h, _ => by
  rw [vL] at h
  cases h
end
theorem qyh {f g : Int → Option T} {ps ts : List T} (h : mtc f (zw ps) (vL ps ts) = some g) : (∀ v u, f v = some u → g v = some u) ∧ (∀ v ∈ zw ps, (g v).isSome = true) ∧ zm ts = szL (gz g) ps := by
 unfold mtc at h
 cases hv : vL ps ts with
 | none =>
  rw [hv] at h
  cases h
 | some l =>
  rw [hv, ja] at h
  obtain ⟨h1, h2⟩ := qnE _ f g h
  refine ⟨h1, fun v hvm => ?_, qtw g ps ts l hv h2⟩
  obtain ⟨i, hi, rfl⟩ := List.getElem_of_mem hvm
  have hl := qxF ps ts l hv
  obtain ⟨u, hu, _⟩ := h2 ((zw ps)[i], l[i]'(by omega)) (by
   rw [List.mem_iff_getElem]
   exact ⟨i, by rw [List.length_zip]; omega, by rw [List.getElem_zip]⟩)
  rw [hu]
  rfl
/-! ### terms under values of the variables -/
mutual
def thT (θ : Int → T) : T → T
 | .mk k i s ar => if k = 1 then θ i else .mk k i s (thL θ ar)
def thL (θ : Int → T) : List T → List T
 | [] => []
 | t :: ts => thT θ t :: thL θ ts
end
theorem qpd (θ : Int → T) {t : T} (h : t.k = 1) : thT θ t = θ t.i := by cases t; simp only [T.k] at h; subst h; simp [thT, T.i]
theorem qqK (θ : Int → T) {t : T} (h : t.k ≠ 1) : thT θ t = .mk t.k t.i t.s (thL θ t.ar) := by cases t; simp only [T.k] at h; simp [thT, h, T.i, T.k, T.s, T.ar]
theorem qjK (θ : Int → T) : ∀ l : List T, thL θ l = l.map (thT θ)
 | [] => rfl
 | t :: l => by rw [thL, jl, qjK θ l]
/-! ### a node stands for one term -/
theorem qyx {a b : List T} (hl : a.length = b.length) (h : ∀ (n : Nat) x y, zj a (n : Int) = some x → zj b (n : Int) = some y → x = y) : a = b := by
 refine List.ext_getElem hl fun n h1 h2 => ?_
 exact h n _ _ (by rw [qdy]; exact jq h1) (by rw [qdy]; exact jq h2)
theorem Rp.one {g : List Nd} {i : Int} {t : T} (h : Rp g i t) : ∀ u, Rp g i u → t = u := by
 induction h with
 | mk i q t h1 h2 h3 h4 h5 h6 ih =>
  intro u hu
  obtain ⟨_, q', _, k1, k2, k3, k4, k5, k6⟩ := hu
  obtain rfl := Option.some.inj (h1.symm.trans k1)
  have e : t.ar = u.ar := qyx (by omega) fun n x y hx hy => by
   have hn := (qkf hx).2.1
   obtain ⟨a, ha, _⟩ := yw (l := q.f3_Kids) (i := (n : Int)) (by omega) (by omega)
   exact ih n a x ha hx y (k6 n a y ha hy)
  rw [← qwu t, ← qwu u, ← h2, ← h3, ← h4, e, ← k2, ← k3, ← k4]
theorem Rp.node {g : List Nd} {i : Int} {t : T} (h : Rp g i t) : ∃ q, zj g i = some q ∧ q.f0_Kind = t.k ∧ q.f1_Int = t.i ∧ q.f2_Name = t.s ∧ q.f3_Kids.length = t.ar.length ∧ ∀ n a u, zj q.f3_Kids n = some a → zj t.ar n = some u → Rp g a u := by
 obtain ⟨_, q, _, h1, h2, h3, h4, h5, h6⟩ := h
 exact ⟨q, h1, h2, h3, h4, h5, h6⟩
def Ev (θ : Int → T) (g : List Nd) (i j : Int) : Prop := i = j ∨ ∃ t u, Rp g i t ∧ Rp g j u ∧ thT θ t = thT θ u
theorem Ev.more {θ : Int → T} {g : List Nd} (e : List Nd) {i j : Int} (h : Ev θ g i j) : Ev θ (g ++ e) i j := by
 rcases h with h | ⟨t, u, h1, h2, h3⟩
 · exact .inl h
 · exact .inr ⟨t, u, h1.more e, h2.more e, h3⟩
theorem Ev.val {θ : Int → T} {g : List Nd} {i j : Int} (h : Ev θ g i j) {t u : T} (ht : Rp g i t) (hu : Rp g j u) : thT θ t = thT θ u := by
 rcases h with rfl | ⟨t', u', h1, h2, h3⟩
 · rw [ht.one u hu]
 · rw [ht.one t' h1, hu.one u' h2, h3]
theorem Ev.resp (θ : Int → T) (g : List Nd) : Resp g (Ev θ g) := by
 refine ⟨fun i => .inl rfl, fun i j h => ?_, fun i j k h1 h2 => ?_, fun i j p q h hp hq hpk hqk => ?_⟩
 · rcases h with h | ⟨t, u, h1, h2, h3⟩
   · exact .inl h.symm
   · exact .inr ⟨u, t, h2, h1, h3.symm⟩
 · rcases h1 with rfl | ⟨t, u, h3, h4, h5⟩
   · exact h2
   rcases h2 with rfl | ⟨t', u', h6, h7, h8⟩
   · exact .inr ⟨t, u, h3, h4, h5⟩
   · refine .inr ⟨t, u', h3, h7, ?_⟩
     rw [h5, h4.one t' h6, h8]
 · rcases h with rfl | ⟨t, u, h1, h2, h3⟩
   · obtain rfl := Option.some.inj (hp.symm.trans hq)
     exact ⟨rfl, rfl, rfl, rfl, fun n a b ha hb => .inl (Option.some.inj (ha.symm.trans hb))⟩
   · obtain ⟨p', e1, k1, k2, k3, k4, k5⟩ := h1.node
     obtain ⟨q', e2, l1, l2, l3, l4, l5⟩ := h2.node
     obtain rfl := Option.some.inj (hp.symm.trans e1)
     obtain rfl := Option.some.inj (hq.symm.trans e2)
     rw [qqK θ (show t.k ≠ 1 by rw [← k1]; exact hpk), qqK θ (show u.k ≠ 1 by rw [← l1]; exact hqk)] at h3
     injection h3 with m1 m2 m3 m4
     rw [qjK, qjK] at m4
     have hlen : t.ar.length = u.ar.length := by simpa using congrArg List.length m4
     refine ⟨by rw [k1, l1, m1], by rw [k2, l2, m2], by rw [k3, l3, m3], by omega, fun n a b ha hb => ?_⟩
     obtain ⟨n0, n1, _⟩ := qkf ha
     obtain ⟨x, hx, _⟩ := yw (l := t.ar) (i := n) n0 (by omega)
     obtain ⟨y, hy, _⟩ := yw (l := u.ar) (i := n) n0 (by omega)
     refine .inr ⟨x, y, k5 n a x ha hx, l5 n b y hb hy, ?_⟩
     have e1 := qvI (thT θ) hx
     rw [m4, qvI (thT θ) hy] at e1
     exact (Option.some.inj e1).symm
theorem quC {θ : Int → T} {M : Nat} {g g1 : List Nd} {c c1 : List Int} {n : Nat} (hs : StG g c) (hF : za5 c (Ev θ g)) (h : y9 M g c n g1 c1) : za5 c1 (Ev θ g1) := by
 obtain ⟨_, _, e, rfl, _, rfl⟩ := h
 have hl := hs.len
 have spl : ∀ i v, zj (c ++ (List.range' g.length e.length).map fun (x : Nat) => (x : Int)) i = some v → (zj c i = some v ∧ v < g.length) ∨ ((g.length : Int) ≤ i ∧ v = i) := fun i v h => by
  obtain ⟨h0, h1⟩ := qb6 h
  by_cases hi : i.toNat < c.length
  · rw [jT hi] at h1
    refine .inl ⟨?_, (hs.cls v (List.mem_of_getElem? h1)).2⟩
    unfold zj
    rw [if_pos h0, h1]
  · rw [vn (by omega)] at h1
    refine .inr ⟨by omega, ?_⟩
    obtain ⟨hb, h1⟩ := jr.1 h1
    rw [List.getElem_map, List.getElem_range'] at h1
    omega
 intro i j v hi hj
 rcases spl i v hi with ⟨h1, h2⟩ | ⟨h1, h2⟩
 · rcases spl j v hj with ⟨h3, h4⟩ | ⟨h3, h4⟩
   · exact (hF i j v h1 h3).more e
   · omega
 · rcases spl j v hj with ⟨h3, h4⟩ | ⟨h3, h4⟩
   · omega
   · exact .inl (h2.symm.trans h4)
/-! ### the term of a class has the value of its nodes -/
theorem qk6 (c : List Int) (cl : Int) : ∀ (l : List Nd) (i : Nat) (r : Int), qG (some (-1)) c cl l i = some r → r < 0 → ∀ (n : Nat) q, l[n]? = some q → zj c ((i + n : Nat) : Int) = some cl → q.f0_Kind = 1
 | [], i, r, h, _, n, q, hq, _ => by simp at hq
 | p :: l, i, r, h, hr, n, q, hq, hc => by
  rw [qG] at h
  cases hv : zj c (i : Int) with
  | none =>
   rw [hv] at h
   cases h
  | some v =>
   rw [hv, ja] at h
   by_cases h1 : v = cl
   · rw [uT h1, cond_true] at h
     by_cases h2 : p.f0_Kind = 1
     · rw [show (p.f0_Kind != 1) = false by simp [h2], cond_false] at h
       cases n with
       | zero =>
        rw [vy] at hq
        cases hq
        exact h2
       | succ n => exact qk6 c cl l (i + 1) r h hr n q (by simpa using hq) (by rw [show i + 1 + n = i + (n + 1) by omega]; exact hc)
     · rw [show (p.f0_Kind != 1) = true by simp [h2], cond_true] at h
       cases h
       omega
   · rw [uF h1, cond_false] at h
     cases n with
     | zero =>
      rw [jZ, hv] at hc
      exact absurd (Option.some.inj hc) h1
     | succ n => exact qk6 c cl l (i + 1) r h hr n q (by simpa using hq) (by rw [show i + 1 + n = i + (n + 1) by omega]; exact hc)
theorem qmX {g : List Nd} {c : List Int} {cl r : Int} (h : qI cl g c = some r) (hr : r < 0) {i : Int} {q : Nd} (hq : zj g i = some q) (hc : zj c i = some cl) : q.f0_Kind = 1 := by
 obtain ⟨h0, h1⟩ := qb6 hq
 exact qk6 c cl g 0 r h hr i.toNat q h1 (by rw [jt, Int.toNat_of_nonneg h0]; exact hc)
theorem qsO (c : List Int) (cl : Int) : ∀ (l : List Nd) (v : Int) (i : Nat) (x : Int), qv (fun v => some v) c cl l v i = some x → (x = v ∧ (v < 0 → ∀ (n : Nat) q, l[n]? = some q → zj c ((i + n : Nat) : Int) = some cl → q.f0_Kind = 1 → False)) ∨ ∃ (n : Nat) (q : Nd), l[n]? = some q ∧ zj c ((i + n : Nat) : Int) = some cl ∧ q.f0_Kind = 1 ∧ q.f1_Int = x
 | [], v, i, x, h => by
  rw [qv] at h
  exact .inl ⟨(Option.some.inj h).symm, fun _ n q hq => by simp at hq⟩
 | p :: l, v, i, x, h => by
  rw [qv] at h
  cases hv : zj c (i : Int) with
  | none =>
   rw [hv] at h
   cases h
  | some w =>
   rw [hv, ja] at h
   have go : ∀ v', qv (fun v => some v) c cl l v' (i + 1) = some x → (x = v' ∧ (v' < 0 → ∀ (n : Nat) q, l[n]? = some q → zj c ((i + 1 + n : Nat) : Int) = some cl → q.f0_Kind = 1 → False)) ∨ ∃ (n : Nat) (q : Nd), (p :: l)[n]? = some q ∧ zj c ((i + n : Nat) : Int) = some cl ∧ q.f0_Kind = 1 ∧ q.f1_Int = x := fun v' h' => by
    rcases qsO c cl l v' (i + 1) x h' with h | ⟨n, q, h1, h2, h3⟩
    · exact .inl h
    · exact .inr ⟨n + 1, q, by simpa using h1, by rw [show i + (n + 1) = i + 1 + n by omega]; exact h2, h3⟩
   have here : w = cl → p.f0_Kind = 1 → p.f1_Int = x → ∃ (n : Nat) (q : Nd), (p :: l)[n]? = some q ∧ zj c ((i + n : Nat) : Int) = some cl ∧ q.f0_Kind = 1 ∧ q.f1_Int = x := fun h1 h2 h3 => ⟨0, p, rfl, by rw [jZ, hv, h1], h2, h3⟩
   have skip : ¬ (w = cl ∧ p.f0_Kind = 1) → qv (fun v => some v) c cl l v (i + 1) = some x → (x = v ∧ (v < 0 → ∀ (n : Nat) q, (p :: l)[n]? = some q → zj c ((i + n : Nat) : Int) = some cl → q.f0_Kind = 1 → False)) ∨ ∃ (n : Nat) (q : Nd), (p :: l)[n]? = some q ∧ zj c ((i + n : Nat) : Int) = some cl ∧ q.f0_Kind = 1 ∧ q.f1_Int = x := fun hn h' => by
    rcases go v h' with ⟨h1, h2⟩ | h
    · refine .inl ⟨h1, fun hv0 n q hq hc hk => ?_⟩
      cases n with
      | zero =>
       rw [vy] at hq
       cases hq
       rw [jZ, hv] at hc
       exact hn ⟨Option.some.inj hc, hk⟩
      | succ n => exact h2 hv0 n q (by simpa using hq) (by rw [show i + 1 + n = i + (n + 1) by omega]; exact hc) hk
    · exact .inr h
   by_cases h1 : w = cl
   · rw [uT h1, cond_true] at h
     by_cases h2 : p.f0_Kind = 1
     · rw [uT h2, cond_true] at h
       have new : qv (fun v => some v) c cl l p.f1_Int (i + 1) = some x → ∃ (n : Nat) (q : Nd), (p :: l)[n]? = some q ∧ zj c ((i + n : Nat) : Int) = some cl ∧ q.f0_Kind = 1 ∧ q.f1_Int = x := fun h' => by
        rcases go _ h' with ⟨h3, _⟩ | h
        · exact here h1 h2 h3.symm
        · exact h
       by_cases h3 : v < 0
       · rw [decide_eq_true h3, cond_true] at h
         exact .inr (new h)
       · rw [decide_eq_false h3, cond_false] at h
         by_cases h4 : p.f1_Int < v
         · rw [decide_eq_true h4, cond_true] at h
           exact .inr (new h)
         · rw [decide_eq_false h4, cond_false] at h
           rcases go _ h with ⟨h5, _⟩ | h
           · exact .inl ⟨h5, fun h6 => absurd h6 h3⟩
           · exact .inr h
     · rw [uF h2, cond_false] at h
       exact skip (fun h => h2 h.2) h
   · rw [uF h1, cond_false] at h
     exact skip (fun h => h1 h.1) h
theorem qwX {g : List Nd} {c : List Int} {cl x : Int} (h : qbk cl g c = some x) {i : Int} {q : Nd} (hq : zj g i = some q) (hc : zj c i = some cl) (hk : q.f0_Kind = 1) : ∃ j p, zj g j = some p ∧ zj c j = some cl ∧ p.f0_Kind = 1 ∧ p.f1_Int = x := by
 obtain ⟨h0, h1⟩ := qb6 hq
 rcases qsO c cl g (-1) 0 x h with ⟨_, h2⟩ | ⟨n, p, h3, h4, h5⟩
 · exact (h2 (by omega) i.toNat q h1 (by rw [jt, Int.toNat_of_nonneg h0]; exact hc) hk).elim
 · exact ⟨(n : Int), p, by rw [qdy]; exact h3, by rw [jt] at h4; exact h4, h5⟩
theorem qmb {α β : Type} {x : Option α} {f : α → Option β} {b : β} (h : x.bind f = some b) : ∃ a, x = some a ∧ f a = some b := ve.1 h
theorem qu1 {θ : Int → T} {rec : Int → List Nd → List Int → Option T} {g : List Nd} {c : List Int} {q : Nd} {u : T} (hlen : q.f3_Kids.length = u.ar.length) (hkl : q.f3_Kids.length ≤ 1000000000) (hr : ∀ (n : Nat) a w v t, zj q.f3_Kids n = some a → zj u.ar n = some w → zj c a = some v → rec v g c = some t → thT θ t = thT θ w) (a b : Int) (s : ByteArray) :
 ∀ (n i : Nat) (l : List T) (t : T), i ≤ q.f3_Kids.length → qC (fun t_14 t_15 t_16 t_17 => some (T.mk t_14 t_15 t_16 t_17)) rec g c q n (i : Int) a b s l = some t → thL θ l = thL θ (u.ar.take i) → ∃ l', t = .mk a b s l' ∧ thL θ l' = thL θ u.ar
 | 0, i, l, t, _, h, _ => by
  rw [qC] at h
  cases h
 | n + 1, i, l, t, hi, h, hl => by
  rw [qC] at h
  by_cases h1 : (i : Int) < (q.f3_Kids.length : Int)
  · rw [decide_eq_true h1, cond_true] at h
    obtain ⟨x, hx, h⟩ := qmb h
    obtain ⟨v, hv, h⟩ := qmb h
    obtain ⟨y, hy, h⟩ := qmb h
    obtain ⟨l2, hl2, h⟩ := qmb h
    obtain ⟨w, hw, _⟩ := yw (l := u.ar) (i := (i : Int)) (by omega) (by omega)
    have e := hr i x w v y hx hw hv hy
    have hl2' : l2 = l ++ [y] := by
     unfold zN at hl2
     split at hl2
     · exact (Option.some.inj hl2).symm
     · cases hl2
    subst hl2'
    have hi' : wr ((i : Int) + 1) = ((i + 1 : Nat) : Int) := by
     rw [qhO (by omega)]
     omega
    rw [hi'] at h
    refine qu1 hlen hkl hr a b s n (i + 1) (l ++ [y]) t (by omega) h ?_
    rw [qdy] at hw
    rw [qga hw, qjK, qjK, jM, jM, List.map_singleton, List.map_singleton, e, ← qjK, ← qjK, hl]
  · rw [decide_eq_false h1, cond_false] at h
    refine ⟨l, (Option.some.inj h).symm, ?_⟩
    rw [hl, jX (by omega)]
theorem quF {θ : Int → T} {M : Nat} (hM : M ≤ 1000000000) {g : List Nd} {c : List Int} (hs : StG g c) (hk : Kd M g) (hA : zaB g) (hF : za5 c (Ev θ g)) : ∀ (fuel : Nat) (v : Int) (t : T), qF fuel v g c = some t → ∀ i u, zj c i = some v → Rp g i u → thT θ t = thT θ u
 | 0, v, t, h, _, _, _, _ => by
  rw [qF] at h
  cases h
 | fuel + 1, v, t, h, i, u, hi, hu => by
  rw [qF] at h
  dsimp only at h
  obtain ⟨r, hr, h⟩ := qmb h
  obtain ⟨q, hq, hqk, hqi, _⟩ := hu.node
  obtain ⟨r', hr', hrq⟩ := qip hs v
  obtain rfl := Option.some.inj (hr.symm.trans hr')
  by_cases h0 : r < 0
  · rw [decide_eq_true h0, cond_true] at h
    obtain ⟨x, hx, h⟩ := qmb h
    have hk1 := qmX hr h0 hq hi
    obtain ⟨j, p, hp, hj, hpk, hpx⟩ := qwX hx hq hi hk1
    obtain ⟨w, hw⟩ := hA j p hp
    obtain ⟨p', hp', hwk, hwi, _⟩ := hw.node
    obtain rfl := Option.some.inj (hp.symm.trans hp')
    have e := (hF i j v hi hj).val hu hw
    obtain rfl := Option.some.inj h
    rw [e, qpd θ (show w.k = 1 by rw [← hwk, hpk]), qpd θ (by rfl), ← hwi, hpx]
    rfl
  · rw [decide_eq_false h0, cond_false] at h
    rcases hrq with rfl | ⟨p, hp, hpc, hpk⟩
    · omega
    obtain ⟨p', hp', h⟩ := qmb h
    obtain rfl := Option.some.inj (hp.symm.trans hp')
    obtain ⟨w, hw⟩ := hA r p hp
    obtain ⟨p', hp', hwk, hwi, hws, hwl, hwr⟩ := hw.node
    obtain rfl := Option.some.inj (hp.symm.trans hp')
    have hkl := hk p (qeK hp)
    obtain ⟨l', rfl, hl'⟩ := qu1 (θ := θ) (u := w) hwl (by omega) (fun n a w' v' t' ha hw' hv' ht' => quF hM hs hk hA hF fuel v' t' ht' a w' hv' (hwr n a w' ha hw')) p.f0_Kind p.f1_Int p.f2_Name fuel 0 [] t (jc _) h (by rw [vB])
    rw [(hF i r v hi hpc).val hu hw, qqK θ (show (T.mk p.f0_Kind p.f1_Int p.f2_Name l').k ≠ 1 from hpk), qqK θ (show w.k ≠ 1 by rw [← hwk]; exact hpk)]
    show T.mk p.f0_Kind p.f1_Int p.f2_Name (thL θ l') = _
    rw [hl', hwk, hwi, hws]
/-! ### the solved form -/
def Ar (P : Int × T → Prop) (r : List (Int × T) × Int) : Prop := (∀ p ∈ r.1, P p) ∧ r.1.length ≤ 1000000000
theorem Ar.nil {P : Int × T → Prop} (e : Int) : Ar P ([], e) := ⟨fun p hp => (by cases hp), by simp⟩
theorem qop {M : Nat} {g : List Nd} (hg : g.length ≤ 1000000000) {c : List Int} (h : StG g c) (fuel : Nat) (hf : g.length + M + 2 ≤ fuel) (m : List Ms × Bool) (hm : ∀ v ∈ c, ((∃ y, zj m.1 v = some y) ∧ yz M g c g.length v) ∧ ∀ y, zj m.1 v = some y → y.f0_Size ≤ 200 → zaZ g c v y.f0_Size) (P : Int × T → Prop) (hP : ∀ i q v t, zj g i = some q → q.f0_Kind = 1 → zj c i = some v → qF fuel v g c = some t → wt t ≤ 200 → P (q.f1_Int, t)) :
 ∀ (n i : Nat) (out : List (Int × T)), g.length < n + i → i ≤ g.length → out.length ≤ i → (∀ p ∈ out, P p) → Yl (q7 (fun out_24 => some (out_24, 0)) fuel m n out (i : Int) g c) (Ar P)
 | 0, i, out, h1, h2, _, _ => by omega
 | n + 1, i, out, h1, h2, h3, h4 => by
  have hl := h.len
  rw [q7]
  by_cases hi : i < g.length
  · obtain ⟨v, hv, hvm⟩ := yw (l := c) (i := (i : Int)) (by omega) (by omega)
    obtain ⟨q, hq, hqm⟩ := yw (l := g) (i := (i : Int)) (by omega) (by omega)
    obtain ⟨⟨⟨y, hy⟩, ht⟩, hwg⟩ := hm v hvm
    obtain ⟨t, ht⟩ := ht fuel hf
    obtain ⟨r, hr, _⟩ := qip h v
    obtain ⟨s, hs⟩ := qnQ h v
    have hi' : wr ((i : Int) + 1) = ((i + 1 : Nat) : Int) := by
     rw [qhO (by omega)]
     omega
    have next := fun out ho hp => qop hg h fuel hf m hm P hP n (i + 1) out (by omega) (by omega) ho hp
    have bad : Yl (some (([] : List (Int × T)), (6 : Int))) (Ar P) := .pure (.nil _)
    have new : q.f0_Kind = 1 → y.f0_Size ≤ 200 → ∀ j : Nat, j ≤ out.length → Yl (q7 (fun out_24 => some (out_24, 0)) fuel m n (out.take j ++ [(q.f1_Int, t)] ++ out.drop j) ((i + 1 : Nat) : Int) g c) (Ar P) := fun hk hy2 j hj => next _ (by simp; omega) fun p hp => by
     simp only [jn, jm] at hp
     rcases hp with (hp | hp) | hp
     · exact h4 p (vg hp)
     · rw [hp]
       exact hP i q v t hq hk hv ht (by have := hwg y hy hy2 fuel t ht; omega)
     · exact h4 p (vh hp)
    rw [decide_eq_true (by omega), cond_true, hv, ja, hq, ja, hi']
    refine .cond (fun _ => next out (by omega) h4) fun hk => ?_
    have hk := bF hk
    rw [hr, ja]
    refine .cond (fun _ => ?_) fun _ => ?_
    · rw [hs, ja]
      refine .cond (fun _ => next out (by omega) h4) fun _ => ?_
      rw [hy, ja]
      refine .cond (fun _ => bad) fun hy2 => .cond (fun _ => bad) fun _ => ?_
      rw [ht, ja]
      obtain ⟨j, _, hj, e⟩ := qrP _ q out 0
      rw [e, qmG _ out _ j (by omega) (by omega)]
      exact new hk (by have := dF hy2; omega) j (by omega)
    · rw [hy, ja]
      refine .cond (fun _ => bad) fun hy2 => .cond (fun _ => bad) fun _ => ?_
      rw [ht, ja]
      obtain ⟨j, _, hj, e⟩ := qrg _ q out 0
      rw [e, qmG _ out _ j (by omega) (by omega)]
      exact new hk (by have := dF hy2; omega) j (by omega)
  · rw [decide_eq_false (by omega), cond_false]
    exact .pure ⟨h4, by show out.length ≤ _; omega⟩
theorem qr0 (θ : Int → T) {Q : List (Int × T) × Int → Prop} (hno : Q ([], 13)) (b : List T) (fuel : Nat) (hf : 1500000000 < fuel) {M : Nat} (hM : M ≤ 300000000) (k : List Nd → List Int → BsR) (hk : ∀ g c, StG g c → Kd M g → zaB g → za5 c (Ev θ g) → g.length ≤ 600000000 → Yl (k g c) Q) (hb : ∀ t ∈ b, yE t ∧ wt t ≤ M) :
 ∀ (l : List T) (i : Nat) (g : List Nd) (c : List Int), i + l.length = b.length → thL θ l = thL θ (b.drop i) → (∀ t ∈ l, yE t ∧ wt t ≤ M) → StG g c → Kd M g → zbl g → zaB g → za5 c (Ev θ g) → g.length + wtL l + wtL (b.drop i) ≤ 600000000 → Yl (qS k b fuel l i g c) Q
 | [], i, g, c, _, _, _, hs, hkd, _, hA, hF, hw => by
  rw [qS]
  exact hk g c hs hkd hA hF (by omega)
 | t :: l, i, g, c, hi, hth, ht, hs, hkd, hv, hA, hF, hw => by
  rw [jg] at hi
  obtain ⟨u, hu, hum⟩ := yw (l := b) (i := (i : Int)) (by omega) (by omega)
  have hd : b.drop i = u :: b.drop (i + 1) := by
   rw [qdy] at hu
   rw [jV (by omega)]
   rw [jq (by omega)] at hu
   rw [Option.some.inj hu]
  have hdrop : wtL (b.drop i) = wt u + wtL (b.drop (i + 1)) := by rw [hd, wtL]
  rw [hd, thL, thL] at hth
  obtain ⟨hth1, hth2⟩ := List.cons.inj hth
  rw [wtL, hdrop] at hw
  obtain ⟨x, g1, c1, e1, E1, v1, r1, q1⟩ := qhH fuel t g c (ht t (jd ..)).1 (by omega) (ht t (jd ..)).2 hs hkd hv (by omega)
  obtain ⟨s1, k1, m1, x0, x1⟩ := E1
  have F1 := quC (M := M) hs hF ⟨s1, k1, m1⟩
  have hl1 := y9.le (M := M) (c := c) (c1 := c1) ⟨s1, k1, m1⟩
  obtain ⟨y, g2, c2, e2, E2, v2, r2, q2⟩ := qhH fuel u g1 c1 (hb u hum).1 (by have := (hb u hum).2; omega) (hb u hum).2 s1 k1 v1 (by omega)
  obtain ⟨s2, k2, m2, y0, y1⟩ := E2
  have F2 := quC (M := M) s1 F1 ⟨s2, k2, m2⟩
  have hl2 := y9.le (M := M) (c := c1) (c1 := c2) ⟨s2, k2, m2⟩
  have hc := qtc c2
  have hcl := s2.len
  obtain ⟨e, rfl, _⟩ := m2
  obtain ⟨ok, c3, e3, s3, _, F3⟩ := qny (g := g1 ++ e) (by omega) fuel x y c2 s2 (by omega) (by omega) x0 (by omega) y0 y1
  have A2 := q2 (q1 hA)
  obtain ⟨hok, F4⟩ := F3 _ (Ev.resp θ _) F2 (.inr ⟨t, u, r1.more e, r2, hth1⟩)
  subst hok
  rw [qS, e1, ja, hu, ja]
  dsimp only
  rw [e2, ja]
  dsimp only
  rw [e3, ja, jG, cond_false]
  exact qr0 θ hno b fuel hf hM k hk hb l (i + 1) (g1 ++ e) c3 (by omega) hth2 (fun t h => ht t (je _ h)) s3 k2 v2 A2 F4 (by omega)
theorem qyD (θ : Int → T) (fuel : Nat) (hf : 1500000000 < fuel) (a b : List T) (hl : a.length = b.length) (hth : thL θ a = thL θ b) (ha : ∀ t ∈ a, yE t) (hb : ∀ t ∈ b, yE t) (wa : wtL a ≤ 300000000) (wb : wtL b ≤ 300000000) : Yl (qb8 fuel a b) (Ar fun p => θ p.1 = thT θ p.2 ∧ wt p.2 ≤ 200) := by
 unfold qb8
 refine qr0 θ (.nil _) (M := 300000000) b fuel hf (jk _) _ (fun g c hs hk hA hF hg => ?_) (fun t ht => ⟨hb t ht, by have := qff ht; omega⟩) a 0 [] [] (by omega) hth (fun t ht => ⟨ha t ht, by have := qff ht; omega⟩) ⟨rfl, fun v hv => by simp at hv, fun v hv => by simp at hv, fun q hq => by simp at hq⟩ (fun q hq => by simp at hq) (fun q hq => by simp at hq) zaB.nil (fun i j v hi => absurd (qeK hi) (by simp)) (by simp; omega)
 obtain ⟨m, ok, e, hok⟩ := qoQ (M := 300000000) (by omega) (by omega) hs hk fuel (by omega)
 rw [e, ja]
 refine .cond (fun _ => .pure (.nil _)) fun h => ?_
 refine qop (M := 300000000) (by omega) hs fuel (by omega) (m, ok) (hok (nF h)) (fun p => θ p.1 = thT θ p.2 ∧ wt p.2 ≤ 200) (fun i q v t hq hqk hv ht hw => ?_) fuel 0 [] (by omega) (by omega) (by simp) (fun p hp => by cases hp)
 obtain ⟨u, hu⟩ := hA i q hq
 obtain ⟨q', hq', huk, hui, _⟩ := hu.node
 obtain rfl := Option.some.inj (hq.symm.trans hq')
 exact ⟨by rw [quF (by omega) hs hk hA hF fuel v t ht i u hv hu, qpd θ (show u.k = 1 by rw [← huk, hqk]), ← hui], hw⟩
theorem qBL (θ : Int → T) (fuel : Nat) (hf : 1500000000 < fuel) (a b : List T) (hth : thL θ a = thL θ b) (wa : wtL a ≤ 300000000) (wb : wtL b ≤ 300000000) : Yl (qaD fuel a b) (Ar fun p => θ p.1 = thT θ p.2 ∧ wt p.2 ≤ 200) := by
 unfold qaD
 refine qnV _ (fun x => Yl x (Ar fun p => θ p.1 = thT θ p.2 ∧ wt p.2 ≤ 200)) (.pure (.nil _)) a wa fun ha => qos _ (fun x => Yl x (Ar fun p => θ p.1 = thT θ p.2 ∧ wt p.2 ≤ 200)) (.pure (.nil _)) b wb fun hb => ?_
 have hl : a.length = b.length := by simpa [qjK] using congrArg List.length hth
 rw [show ((a.length : Int) != (b.length : Int)) = false by simp [hl], cond_false]
 exact .bind (qyD θ fuel hf a b hl hth (fun t ht => qgm (ha t ht)) (fun t ht => qgm (hb t ht)) wa wb) fun r hr => .pure hr
/-! ### two numbers, or a number and a zbj, are not made equal -/
theorem qvf {g : List Nd} {c : List Int} (hs : StG g c) (hg : g.length ≤ 1000000000) {i j : Int} {p q : Nd} (hi : zj c i = some i) (hj : zj c j = some j) (hij : i ≠ j) (hp : zj g i = some p) (hq : zj g j = some q) (hpk : p.f0_Kind ≠ 1) (hqk : q.f0_Kind ≠ 1) (h1 : ∀ x, zj c x = some i → x = i) (h2 : ∀ x, zj c x = some j → x = j) (hne : p.f0_Kind ≠ q.f0_Kind ∨ p.f1_Int ≠ q.f1_Int) (fuel : Nat) (hf : g.length + 1 < fuel) : ∃ c', q8 fuel i j g c = some (false, g, c') := by
 obtain ⟨fuel, rfl⟩ : ∃ n, fuel = n + 1 := ⟨fuel - 1, by omega⟩
 have hl := hs.len
 rw [q8]
 dsimp only
 rw [hi, ja, hj, ja, uF hij, cond_false]
 obtain ⟨m, em, hm⟩ := qip hs i
 obtain ⟨n, en, hn⟩ := qip hs j
 have m0 : ¬ m < 0 := fun h => hpk (qmX em h hp hi)
 have n0 : ¬ n < 0 := fun h => hqk (qmX en h hq hj)
 rcases hm with rfl | ⟨p', hp', cp, _⟩
 · omega
 rcases hn with rfl | ⟨q', hq', cq, _⟩
 · omega
 obtain rfl := h1 m cp
 obtain rfl := h2 n cq
 obtain rfl := Option.some.inj (hp.symm.trans hp')
 obtain rfl := Option.some.inj (hq.symm.trans hq')
 have hj := qra (fun g_13 g_14 => (bif (decide (m < (0 : Int))) then some (true, g_13, g_14) else (bif (decide (n < (0 : Int))) then some (true, g_13, g_14) else ((zj g_13 m).bind fun q_18 => ((zj g_13 n).bind fun q_19 => (bif (q_18.f0_Kind != q_19.f0_Kind) then some (false, g_13, g_14) else (bif (q_18.f1_Int != q_19.f1_Int) then some (false, g_13, g_14) else (bif (!(q_18.f2_Name.toList == q_19.f2_Name.toList)) then some (false, g_13, g_14) else (bif ((q_18.f3_Kids.length : Int) != (q_19.f3_Kids.length : Int)) then some (false, g_13, g_14) else (qM (fun g_31 g_32 => some (true, g_31, g_32)) (q8 fuel) q_19 q_18.f3_Kids 0 g_13 g_14)))))))))) m n g c [] fuel (by omega) (by simp; omega)
 rw [jo, jo] at hj
 rw [em, ja, en, ja]
 refine ⟨c.map (mrg n m), hj.trans ?_⟩
 rw [decide_eq_false m0, cond_false, decide_eq_false n0, cond_false, hp, ja, hq, ja]
 by_cases e : p.f0_Kind = q.f0_Kind
 · rw [show (p.f0_Kind != q.f0_Kind) = false by simpa using e, cond_false, show (p.f1_Int != q.f1_Int) = true by simpa using hne.resolve_left fun h => h e, cond_true]
 · rw [show (p.f0_Kind != q.f0_Kind) = true by simpa using e, cond_true]
theorem qvZ (fuel : Nat) (hf : 1500000000 < fuel) (s u : T) (a b : List T) (hsk : s.k ≠ 1) (huk : u.k ≠ 1) (hne : s.k ≠ u.k ∨ s.i ≠ u.i) (wa : wtL (s :: a) ≤ 300000000) (wb : wtL (u :: b) ≤ 300000000) : Yl (qaD fuel (s :: a) (u :: b)) fun r => r.2 ≠ 0 := by
 unfold qaD
 refine qnV _ (fun x => Yl x fun r => r.2 ≠ 0) (.pure (by simp)) _ wa fun ha => qos _ (fun x => Yl x fun r => r.2 ≠ 0) (.pure (by simp)) _ wb fun hb => ?_
 refine .cond (fun _ => .pure (by simp)) fun _ => ?_
 rw [wtL] at wa wb
 unfold qb8
 obtain ⟨x, g1, c1, e1, E1, v1, r1, _⟩ := qhH (M := 300000000) fuel s [] [] (qgm (ha s (jd ..))) (by omega) (by omega) ⟨rfl, fun v hv => by simp at hv, fun v hv => by simp at hv, fun q hq => by simp at hq⟩ (fun q hq => by simp at hq) (fun q hq => by simp at hq) (by simp; omega)
 obtain ⟨s1, k1, m1, x0, x1⟩ := E1
 have hl1 := y9.le (M := 300000000) (g := []) (c := []) (c1 := c1) ⟨s1, k1, m1⟩
 obtain ⟨y, g2, c2, e2, E2, v2, r2, _⟩ := qhH (M := 300000000) fuel u g1 c1 (qgm (hb u (jd ..))) (by omega) (by omega) s1 k1 v1 (by simp at hl1; omega)
 obtain ⟨s2, k2, m2, y0, y1⟩ := E2
 have hl2 := y9.le (M := 300000000) (c := c1) (c1 := c2) ⟨s2, k2, m2⟩
 obtain ⟨d, hd, _, rfl⟩ := m1
 obtain rfl : d = g1 := by simpa using hd.symm
 obtain ⟨e, rfl, _, rfl⟩ := m2
 simp only [jo, jY, jt] at *
 have idc : ∀ z v, zj (((List.range' 0 d.length).map fun (x : Nat) => (x : Int)) ++ (List.range' d.length e.length).map fun (x : Nat) => (x : Int)) z = some v → v = z := fun z v h => by
  obtain ⟨h0, h1⟩ := qb6 h
  rw [← jM] at h1
  have ha : List.range' 0 d.length ++ List.range' d.length e.length = List.range' 0 (d.length + e.length) := by
   have := @List.range'_append 0 d.length e.length 1
   simpa using this
  rw [ha] at h1
  obtain ⟨hb, h1⟩ := jr.1 h1
  rw [List.getElem_map, List.getElem_range'] at h1
  omega
 have idg : ∀ z : Int, 0 ≤ z → z < (d ++ e).length → zj (((List.range' 0 d.length).map fun (x : Nat) => (x : Int)) ++ (List.range' d.length e.length).map fun (x : Nat) => (x : Int)) z = some z := fun z h0 h1 => by
  obtain ⟨v, hv, _⟩ := yw (l := ((List.range' 0 d.length).map fun (x : Nat) => (x : Int)) ++ (List.range' d.length e.length).map fun (x : Nat) => (x : Int)) (i := z) h0 (by rw [jf] at h1; simp; omega)
  rw [hv, idc z v hv]
 obtain ⟨p, hp, hpk, hpi, _⟩ := (r1.more e).node
 obtain ⟨q, hq, hqk, hqi, _⟩ := r2.node
 have hxy : x ≠ y := fun h => by
  subst h
  obtain rfl := Option.some.inj (hp.symm.trans hq)
  rcases hne with hne | hne
  · exact hne (by rw [← hpk, hqk])
  · exact hne (by rw [← hpi, hqi])
 obtain ⟨c3, e3⟩ := qvf s2 (by omega) (idg x x0 (by rw [jf]; omega)) (idg y y0 y1) hxy hp hq (by rw [hpk]; exact hsk) (by rw [hqk]; exact huk) (fun z hz => (idc z x hz).symm) (fun z hz => (idc z y hz).symm) (by rw [hpk, hqk, hpi, hqi]; exact hne) fuel (by omega)
 have hu : zj (u :: b) ((0 : Nat) : Int) = some u := rfl
 rw [qS, e1, ja, hu, ja]
 dsimp only
 rw [e2, ja]
 dsimp only
 rw [e3, ja]
 exact .pure (by simp)
/-! ### layer 15 -/
theorem qtk (s : ByteArray) (n : Int) : ∀ l : List qbG, Yl (qan (some false) n s l) fun _ => True
 | [] => by rw [qan]; exact .pure trivial
 | d :: l => by
  rw [qan]
  exact .cond (fun _ => .cond (fun _ => .pure trivial) fun _ => qtk s n l) fun _ => qtk s n l
theorem qre (l : List qbG) (s : ByteArray) (n : Int) : Yl (qcn l s n) fun _ => True := qtk s n l
theorem qm2 {k : Int → Option Int} (hk : ∀ e, Yl (k e) fun _ => True) (s : ByteArray) : ∀ (l : List qbG) (e : Int), Yl (qaB k s l e) fun _ => True
 | [], e => by rw [qaB]; exact hk e
 | d :: l, e => by
  rw [qaB]
  exact .cond (fun _ => qm2 hk s l _) fun _ => qm2 hk s l _
theorem qqs (l : List qbG) (s : ByteArray) (n : Int) : Yl (qdO l s n) fun _ => True :=
 qm2 (fun e => .bind (qre l s n) fun _ _ => .cond (fun _ => .pure trivial) fun _ => .pure trivial) s l 7
theorem qq6 (ds : List qbG) : ∀ l : List Gl, Yl (qaS (some 0) ds l) fun _ => True
 | [] => by rw [qaS]; exact .pure trivial
 | g :: l => by
  rw [qaS]
  exact .cond (fun _ => qq6 ds l) fun _ => .bind (qqs ds _ _) fun _ _ => .cond (fun _ => .pure trivial) fun _ => qq6 ds l
theorem qzU (n : Int) : Yl (qdF n) fun _ => True := by
 unfold qdF
 exact .cond (fun _ => .pure trivial) fun _ => .pure trivial
theorem qwi (n : Int) : ∀ l : List Int, Yl (qb9 (some false) n l) fun _ => True
 | [] => by rw [qb9]; exact .pure trivial
 | x :: l => by
  rw [qb9]
  exact .cond (fun _ => .pure trivial) fun _ => qwi n l
theorem qrO {α : Type} {b : Nat} (hb : b ≤ 100) {l : List α} (h : l.length ≤ 1000000000) : zN b [] l = some l := by
 rw [qlZ hb (by simp; omega), jo]
structure BkR (r : qD) : Prop where
 a : ∀ a ∈ r.f1_Keep ++ r.f2_Remove, wtL a.ts ≤ 1000000000
 g : ∀ g ∈ r.f3_Guard ++ r.f4_Body, wtL g.ts ≤ 1000000000
 la : r.f1_Keep.length + r.f2_Remove.length ≤ 1000000000
 lg : r.f3_Guard.length + r.f4_Body.length ≤ 1000000000
 n : r.f0_Name.size ≤ 9223372036854775807
structure y7 (r : qD) : Prop where
 a : ∀ a ∈ r.f1_Keep ++ r.f2_Remove, zn a = true
 g : ∀ g ∈ r.f3_Guard ++ r.f4_Body, zz g = true
 h0 : 0 < (r.f1_Keep ++ r.f2_Remove).length
 h4 : (r.f1_Keep ++ r.f2_Remove).length ≤ 4
 gl : r.f3_Guard.length ≤ 12
 bl : r.f4_Body.length ≤ 12
theorem qlT {r : qD} (h : r.f1_Keep.length + r.f2_Remove.length ≤ 1000000000) : qct r = some (r.f1_Keep ++ r.f2_Remove) := by
 rw [qct, qrO (by omega) (by omega), ja, qlZ (by omega) (by omega), ja]
theorem qmV {r : qD} (h : r.f3_Guard.length + r.f4_Body.length ≤ 1000000000) : qcO r = some (r.f3_Guard ++ r.f4_Body) := by
 rw [qcO, qrO (by omega) (by omega), ja, qlZ (by omega) (by omega), ja]
theorem qmN {r : qD} (h : r.f1_Keep.length + r.f2_Remove.length ≤ 1000000000) : qcP r = some (r.f1_Keep ++ r.f2_Remove) := by
 rw [qcP, qrO (by omega) (by omega), ja, qlZ (by omega) (by omega), ja]
theorem qB5 {k : List T → Option (List Int)} : ∀ (l : List At) (ts : List T), (∀ a ∈ l, zn a = true) → wtL ts + 200 * l.length ≤ 1000000 → (∀ us, wtL us ≤ wtL ts + 200 * l.length → Yl (k us) fun _ => True) → Yl (qaO k l ts) fun _ => True
 | [], ts, _, hw, hk => by rw [qaO]; exact hk ts (by omega)
 | a :: l, ts, ha, hw, hk => by
  rw [jg] at hw hk
  have h1 := (qgp (ha a (jd ..))).2.1
  have h2 := qf4 ts
  have h3 := qf4 a.ts
  rw [qaO, qlZ (by omega) (by omega), ja]
  exact qB5 l _ (fun b hb => ha b (je _ hb)) (by rw [qlI]; omega) fun us hus => hk us (by rw [qlI] at hus; omega)
theorem qBF {k : List T → Option (List Int)} : ∀ (l : List At) (ts : List T), (∀ a ∈ l, zn a = true) → wtL ts + 200 * l.length ≤ 1000000 → ∀ Q : List Int → Prop, (∀ us, wtL us ≤ wtL ts + 200 * l.length → Yl (k us) Q) → Yl (qbI k l ts) Q
 | [], ts, _, hw, Q, hk => by rw [qbI]; exact hk ts (by omega)
 | a :: l, ts, ha, hw, Q, hk => by
  rw [jg] at hw hk
  have h1 := (qgp (ha a (jd ..))).2.1
  have h2 := qf4 ts
  have h3 := qf4 a.ts
  rw [qbI, qlZ (by omega) (by omega), ja]
  exact qBF l _ (fun b hb => ha b (je _ hb)) (by rw [qlI]; omega) Q fun us hus => hk us (by rw [qlI] at hus; omega)
theorem qBN {k : List T → Option (List Int)} : ∀ (l : List Gl) (ts : List T), (∀ a ∈ l, zz a = true) → wtL ts + 200 * l.length ≤ 1000000 → ∀ Q : List Int → Prop, (∀ us, wtL us ≤ wtL ts + 200 * l.length → Yl (k us) Q) → Yl (qbK k l ts) Q
 | [], ts, _, hw, Q, hk => by rw [qbK]; exact hk ts (by omega)
 | a :: l, ts, ha, hw, Q, hk => by
  rw [jg] at hw hk
  have h1 := (qhR (ha a (jd ..))).2
  have h2 := qf4 ts
  have h3 := qf4 a.ts
  rw [qbK, qlZ (by omega) (by omega), ja]
  exact qBN l _ (fun b hb => ha b (je _ hb)) (by rw [qlI]; omega) Q fun us hus => hk us (by rw [qlI] at hus; omega)
theorem qwo (fuel : Nat) (ts : List T) (h : wtL ts < fuel) (hm : wtL ts ≤ 1000000000) : Yl (qbV fuel ts) fun _ => True := .of (qn8 fuel ts h hm) trivial
theorem qtD (fuel : Nat) (hf : 1000000000 < fuel) {r : qD} (h : y7 r) : Yl (qdB fuel r) fun _ => True := by
 have h4 := h.h4
 have h4' := h4
 rw [jf] at h4'
 unfold qdB
 rw [qlT (by omega), ja]
 exact qB5 _ [] h.a (by simp [wtL]; omega) fun us hus => .bind (qwo fuel us (by simp [wtL] at hus; omega) (by simp [wtL] at hus; omega)) fun _ _ => .pure trivial
theorem qwd (fuel : Nat) (hf : 1000000000 < fuel) {r : qD} (h : y7 r) : Yl (qek fuel r) fun _ => True := by
 have h4 := h.h4
 have h4' := h4
 have hg := h.gl
 have hb := h.bl
 have hgl : (r.f3_Guard ++ r.f4_Body).length ≤ 24 := by rw [jf]; omega
 rw [jf] at h4'
 unfold qek
 rw [qlT (by omega), ja]
 refine qBF _ [] h.a (by simp [wtL]; omega) _ fun us hus => ?_
 rw [qmV (by omega), ja]
 simp only [wtL] at hus
 exact qBN _ us h.g (by omega) _ fun ws hws => .bind (qwo fuel ws (by omega) (by omega)) fun _ _ => .pure trivial
theorem qp6 (fuel : Nat) (hf : 1000000000 < fuel) (ds : List qbG) {r : qD} (h : y7 r) : Yl (qcZ fuel ds r) fun _ => True := by
 have h4 := h.h4
 have hg := h.gl
 have hb := h.bl
 rw [jf] at h4
 unfold qcZ
 rw [qlT (by omega), ja, qmV (by omega), ja]
 have l4 : ∀ (k : Option Int) (_ : Yl k fun _ => True) (v l : List Int), Yl (qa8 k v l) fun _ => True := fun k hk v l => by
  induction l with
  | nil => rw [qa8]; exact hk
  | cons x l ih =>
   rw [qa8]
   exact .bind (qwi x v) fun _ _ => .cond (fun _ => .pure trivial) fun _ => ih
 have l3 : ∀ (v : List Int) (l : List Gl), (∀ g ∈ l, zz g = true) → Yl (qa4 (some 0) fuel v l) fun _ => True := fun v l hl => by
  induction l with
  | nil => rw [qa4]; exact .pure trivial
  | cons x l ih =>
   have := (qhR (hl x (jd ..))).2
   rw [qa4]
   refine .bind (R := fun _ => True) ?_ fun w _ => l4 _ (ih fun g hg => hl g (je _ hg)) v w
   unfold qcR
   exact .bind (qwo fuel x.ts (by omega) (by omega)) fun _ _ => .pure trivial
 have l2 : ∀ (k : Option Int) (_ : Yl k fun _ => True) (l : List Gl), Yl (qa7 k l) fun _ => True := fun k hk l => by
  induction l with
  | nil => rw [qa7]; exact hk
  | cons x l ih =>
   rw [qa7]
   exact .bind (qzU _) fun _ _ => .cond (fun _ => .pure trivial) fun _ => ih
 have l1 : ∀ (k : Option Int) (_ : Yl k fun _ => True) (l : List Gl), Yl (qav k l) fun _ => True := fun k hk l => by
  induction l with
  | nil => rw [qav]; exact hk
  | cons x l ih =>
   rw [qav]
   exact .bind (qzU _) fun _ _ => .cond (fun _ => .cond (fun _ => .pure trivial) fun _ => ih) fun _ => ih
 have l0 : ∀ (k : Option Int) (_ : Yl k fun _ => True) (l : List At), Yl (qa3 k ds l) fun _ => True := fun k hk l => by
  induction l with
  | nil => rw [qa3]; exact hk
  | cons x l ih =>
   rw [qa3]
   exact .bind (qqs _ _ _) fun _ _ => .cond (fun _ => .pure trivial) fun _ => ih
 refine l0 _ (.bind (qq6 ds _) fun _ _ => .cond (fun _ => .pure trivial) fun _ => l1 _ (l2 _ (.bind (qtD fuel hf h) fun v _ => l3 v _ fun g hg => h.g g (js _ hg)) _) _) _
theorem qzV {Q : Int → Prop} (hQ : Q 2) {k : Option Int} : ∀ l : List At, (∀ a ∈ l, wtL a.ts ≤ 1000000000) → ((∀ a ∈ l, zn a = true) → Yl k Q) → Yl (qaI k l) Q
 | [], _, hk => by rw [qaI]; exact hk fun a h => by cases h
 | a :: l, hw, hk => by
  rw [qaI, qgn a (by have := hw a (jd ..); omega), ja]
  refine .cond (fun _ => .pure hQ) fun h => qzV hQ l (fun b hb => hw b (je _ hb)) fun hl => hk fun b hb => ?_
  rcases jh.1 hb with rfl | hb
  · exact nF h
  · exact hl b hb
theorem qzz {Q : Int → Prop} (hQ : Q 2) {k : Option Int} : ∀ l : List Gl, (∀ a ∈ l, wtL a.ts ≤ 1000000000) → ((∀ a ∈ l, zz a = true) → Yl k Q) → Yl (qaH k l) Q
 | [], _, hk => by rw [qaH]; exact hk fun a h => by cases h
 | a :: l, hw, hk => by
  rw [qaH, qhf a (by have := hw a (jd ..); omega), ja]
  refine .cond (fun _ => .pure hQ) fun h => qzz hQ l (fun b hb => hw b (je _ hb)) fun hl => hk fun b hb => ?_
  rcases jh.1 hb with rfl | hb
  · exact nF h
  · exact hl b hb
theorem qzF {Q : Int → Prop} (hQ : Q 2) {k : Option Int} (hk : Yl k Q) : ∀ (l : List Int) (i : Nat), Yl (qaF k l i) Q
 | [], i => by rw [qaF]; exact hk
 | x :: l, i => by
  rw [qaF]
  exact .cond (fun _ => .pure hQ) fun _ => qzF hQ hk l _
theorem qvz (fuel : Nat) (hf : 1000000000 < fuel) (ds : List qbG) (r : qD) (h : BkR r) : Yl (qdh fuel ds r) fun e => e = 0 → y7 r := by
 unfold qdh
 have hla := h.la
 have hlg := h.lg
 rw [qlT (by omega), ja, qmV (by omega), ja]
 refine .cond (fun _ => .pure (by simp)) fun e0 => .cond (fun _ => .pure (by simp)) fun e4 => .cond (fun _ => .pure (by simp)) fun eg => .cond (fun _ => .pure (by simp)) fun eb => ?_
 have e0 := eF e0
 have e4 := dF e4
 have eg := dF eg
 have eb := dF eb
 refine qzV (by simp) _ h.a fun ha => qzz (by simp) _ h.g fun hg => ?_
 have ok : y7 r := ⟨ha, hg, by omega, by omega, by omega, by omega⟩
 refine .bind (qwd fuel hf ok) fun v _ => qzF (by simp) ?_ v 0
 refine .cond (fun _ => .pure (by simp)) fun _ => .cond (fun _ => ?_) fun _ => .bind (qp6 fuel hf ds ok) fun _ _ => .pure fun _ => ok
 rw [qlK, if_pos h.n, ja]
 exact .cond (fun _ => .pure (by simp)) fun _ => .bind (qp6 fuel hf ds ok) fun _ _ => .pure fun _ => ok
structure BkP (p : qn) : Prop where
 r : ∀ r ∈ p.f1_Rules, BkR r
 n : ∀ d ∈ p.f0_Decls, d.f0_Name.size ≤ 9223372036854775807
structure yV (p : qn) : Prop where
 r : ∀ r ∈ p.f1_Rules, y7 r
 l : p.f1_Rules.length ≤ 40
theorem qwN (fuel : Nat) (hf : 1000000000 < fuel) (p : qn) : ∀ (l : List qD) (i : Nat), (∀ r ∈ l, BkR r) → Yl (qbn (some (0, 0)) fuel p l i) fun e => e.2 = 0 → ∀ r ∈ l, y7 r
 | [], i, _ => by rw [qbn]; exact .pure fun _ r h => by cases h
 | r :: l, i, h => by
  rw [qbn]
  refine .bind (qvz fuel hf _ r (h r (jd ..))) fun e he => .cond (fun h1 => .pure fun h2 => absurd h2 (bT h1)) fun h1 => ?_
  refine (qwN fuel hf p l (i + 1) fun x hx => h x (je _ hx)).mono fun e2 h2 h3 x hx => ?_
  rcases jh.1 hx with rfl | hx
  · exact he (bF h1)
  · exact h2 h3 x hx
theorem qxy (p : qn) {Q : Int × Int → Prop} (hQ : ∀ a b, b ≠ 0 → Q (a, b)) {k : Option (Int × Int)} (hk : Yl k Q) : ∀ (l : List qbG) (i : Nat), (∀ d ∈ l, d.f0_Name.size ≤ 9223372036854775807) → i + l.length = p.f0_Decls.length → Yl (qbx k p l i) Q
 | [], i, _, _ => by rw [qbx]; exact hk
 | d :: l, i, h, hl => by
  rw [jg] at hl
  rw [qbx, qlK, if_pos (h d (jd ..)), ja]
  refine .cond (fun _ => .pure (hQ _ _ (by omega))) fun _ => .cond (fun _ => .pure (hQ _ _ (by omega))) fun _ => .cond (fun _ => .pure (hQ _ _ (by omega))) fun _ => ?_
  rw [show yt p.f0_Decls 0 (i : Int) = some ((p.f0_Decls.take (i : Int).toNat).drop (0 : Int).toNat) by unfold yt; rw [if_pos (by omega)], ja]
  exact .bind (qre _ _ _) fun _ _ => .cond (fun _ => .pure (hQ _ _ (by omega))) fun _ => qxy p hQ hk l (i + 1) (fun x hx => h x (je _ hx)) (by omega)
theorem qAq (fuel : Nat) (hf : 1000000000 < fuel) (p : qn) (h : BkP p) : Yl (qea fuel p) fun e => e.2 = 0 → yV p := by
 unfold qea
 refine .cond (fun _ => .pure (by simp)) fun _ => qxy p (fun a b hb h => absurd h hb) ?_ _ 0 h.n (by omega)
 refine .cond (fun _ => .pure (by simp)) fun hl => (qwN fuel hf p _ 0 h.r).mono fun e he h0 => ⟨he h0, by have := dF hl; omega⟩
/-! ### layer 19 -/
structure StOk (l : List (Int × At)) : Prop where
 a : ∀ q ∈ l, zn q.2 = true
 p : ∀ q ∈ l, 1 ≤ q.1
 s : l.Pairwise fun q r => q.1 < r.1
 n : l.length ≤ 500
theorem qxt {α : Type} {R : α → α → Prop} (htr : ∀ a b c, R a b → R b c → R a c) : ∀ {l : List α} {x y : α}, (l ++ [x]).Pairwise R → R x y → (l ++ [x] ++ [y]).Pairwise R := fun {l x y} h hxy => by
 rw [List.pairwise_append] at h ⊢
 refine ⟨List.pairwise_append.2 h, Je .., fun a ha b hb => ?_⟩
 rw [jm.1 hb]
 rcases jn.1 ha with ha | ha
 · exact htr _ _ _ (h.2.2 a ha x (jm.2 rfl)) hxy
 · rw [jm.1 ha]
   exact hxy
theorem qtv {α : Type} {l done rest : List α} {i : Nat} (h : l = done ++ rest) (hi : i = done.length) (h0 : 0 < i) (hl : l.length ≤ 9000000000000000000) : ∃ pre x, done = pre ++ [x] ∧ zj l (wr ((i : Int) - 1)) = some x := by
 have hd : done ≠ [] := fun e => by rw [e] at hi; simp at hi; omega
 refine ⟨done.dropLast, done.getLast hd, (List.dropLast_concat_getLast hd).symm, ?_⟩
 have hle : i ≤ l.length := by rw [h, jf]; omega
 rw [qhO (by omega), show (i : Int) - 1 = ((i - 1 : Nat) : Int) by omega, qdy, h, jT (by omega), List.getLast_eq_getElem, hi]
 exact jq _
theorem qBs (l : List (Int × At)) (hl : l.length ≤ 9000000000000000000) : ∀ (rest done : List (Int × At)) (i : Nat), l = done ++ rest → i = done.length → (∀ q ∈ rest, wtL q.2.ts ≤ 1000000000) → ((∀ q ∈ done, zn q.2 = true) ∧ (∀ q ∈ done, 1 ≤ q.1) ∧ done.Pairwise fun q r => q.1 < r.1) → Yl (qaq (some true) l rest i) fun b => b = true → (∀ q ∈ l, zn q.2 = true) ∧ (∀ q ∈ l, 1 ≤ q.1) ∧ l.Pairwise fun q r => q.1 < r.1
 | [], done, i, h, hi, _, hd => by
  rw [qaq]
  rw [jx] at h
  exact .pure fun _ => by rw [h]; exact hd
 | q :: rest, done, i, h, hi, hw, ⟨d1, d2, d3⟩ => by
  rw [qaq]
  have hwq := hw q (jd ..)
  refine .cond (fun _ => .pure fun h => by cases h) fun h1 => ?_
  have h1 := dF h1
  have next : zn q.2 = true → (done ++ [q]).Pairwise (fun q r => q.1 < r.1) → Yl (qaq (some true) l rest (i + 1)) fun b => b = true → (∀ q ∈ l, zn q.2 = true) ∧ (∀ q ∈ l, 1 ≤ q.1) ∧ l.Pairwise fun q r => q.1 < r.1 := fun hr hp =>
   qBs l hl rest (done ++ [q]) (i + 1) (by rw [h, ji]; rfl) (by rw [jf, jp]; omega) (fun x hx => hw x (je _ hx)) ⟨fun x hx => by
    rcases jn.1 hx with hx | hx
    · exact d1 x hx
    · rw [jm.1 hx]; exact hr, fun x hx => by
    rcases jn.1 hx with hx | hx
    · exact d2 x hx
    · rw [jm.1 hx]; omega, hp⟩
  refine .cond (fun h0 => ?_) fun h0 => ?_
  · have h0 := dT h0
    obtain ⟨pre, x, hx, hg⟩ := qtv h hi (by omega) hl
    rw [hg, ja]
    refine .cond (fun _ => .pure fun h => by cases h) fun h2 => ?_
    have h2 := dF h2
    rw [qgn q.2 hwq, ja]
    refine .cond (fun _ => .pure fun h => by cases h) fun h3 => next (nF h3) ?_
    rw [hx] at d3 ⊢
    exact qxt (fun _ _ _ a b => by omega) d3 (by omega)
  · have h0 := dF h0
    rw [qgn q.2 hwq, ja]
    refine .cond (fun _ => .pure fun h => by cases h) fun h3 => next (nF h3) ?_
    rw [jB (l := done) (by omega)]
    exact Je ..
theorem qAg (l : List (Int × At)) (hw : ∀ q ∈ l, wtL q.2.ts ≤ 1000000000) : Yl (qcQ l) fun b => b = true → StOk l := by
 unfold qcQ
 refine .cond (fun _ => .pure fun h => by cases h) fun hl => ?_
 have hl := dF hl
 exact (qBs l (by omega) l [] 0 rfl rfl hw ⟨fun q h => (by cases h), fun q h => (by cases h), List.Pairwise.nil⟩).mono fun b hb h => ⟨(hb h).1, (hb h).2.1, (hb h).2.2, by omega⟩
/-! ### layer 6 -/
structure za9 (b : En) : Prop where
 t : ∀ q ∈ b, zM q.2 = true
 v : ∀ q ∈ b, 0 ≤ q.1 ∧ q.1 ≤ 1048576
 s : b.Pairwise fun q r => q.1 < r.1
 f : ∀ q ∈ b, ∀ x ∈ yh q.2, zp b x = none
theorem qud {k : Option Bool} {Q : Bool → Prop} (hQ : Q false) (b : En) : ∀ l : List Int, ((∀ x ∈ l, zp b x = none) → Yl k Q) → Yl (qbv k b l) Q
 | [], hk => by rw [qbv]; exact hk fun x h => by cases h
 | x :: l, hk => by
  rw [qbv, qml, ja]
  refine .cond (fun _ => .pure hQ) fun h => qud hQ b l fun hl => hk fun y hy => ?_
  rcases jh.1 hy with rfl | hy
  · simpa using h
  · exact hl y hy
theorem quu (b : En) (fuel : Nat) (hf : 1000000000 < fuel) : ∀ l : En, (∀ q ∈ l, wt q.2 ≤ 1000000000) → Yl (qbz (some true) b fuel l) fun r => r = true → ∀ q ∈ l, ∀ x ∈ yh q.2, zp b x = none
 | [], _ => by rw [qbz]; exact .pure fun _ q h => by cases h
 | q :: l, hw => by
  have hq := hw q (jd ..)
  rw [qbz, qrL fuel q.2 (by omega) (by omega), ja]
  refine qud (fun h => by cases h) b _ fun h1 => (quu b fuel hf l fun x hx => hw x (je _ hx)).mono fun r h2 h3 p hp x hx => ?_
  rcases jh.1 hp with rfl | hp
  · exact h1 x (qkM.2 (.inr hx))
  · exact h2 h3 p hp x hx
theorem qBz (b : En) (hl : b.length ≤ 9000000000000000000) {k : Option Bool} {Q : Bool → Prop} (hQ : Q false) (hk : (∀ q ∈ b, zM q.2 = true) → (∀ q ∈ b, 0 ≤ q.1 ∧ q.1 ≤ 1048576) → (b.Pairwise fun q r => q.1 < r.1) → Yl k Q) : ∀ (rest done : En) (i : Nat), b = done ++ rest → i = done.length → (∀ q ∈ rest, wt q.2 ≤ 1000000000) → ((∀ q ∈ done, zM q.2 = true) ∧ (∀ q ∈ done, 0 ≤ q.1 ∧ q.1 ≤ 1048576) ∧ done.Pairwise fun q r => q.1 < r.1) → Yl (qat k b rest i) Q
 | [], done, i, h, hi, _, ⟨d1, d2, d3⟩ => by
  rw [qat]
  rw [jx] at h
  exact hk (by rw [h]; exact d1) (by rw [h]; exact d2) (by rw [h]; exact d3)
 | q :: rest, done, i, h, hi, hw, ⟨d1, d2, d3⟩ => by
  rw [qat]
  have hwq := hw q (jd ..)
  refine .cond (fun _ => .pure hQ) fun h1 => .cond (fun _ => .pure hQ) fun h1' => ?_
  have h1 := dF h1
  have h1' := dF h1'
  have next : zM q.2 = true → (done ++ [q]).Pairwise (fun q r => q.1 < r.1) → Yl (qat k b rest (i + 1)) Q := fun hr hp =>
   qBz b hl hQ hk rest (done ++ [q]) (i + 1) (by rw [h, ji]; rfl) (by rw [jf, jp]; omega) (fun x hx => hw x (je _ hx)) ⟨fun x hx => by
    rcases jn.1 hx with hx | hx
    · exact d1 x hx
    · rw [jm.1 hx]; exact hr, fun x hx => by
    rcases jn.1 hx with hx | hx
    · exact d2 x hx
    · rw [jm.1 hx]; omega, hp⟩
  refine .cond (fun h0 => ?_) fun h0 => ?_
  · have h0 := dT h0
    obtain ⟨pre, x, hx, hg⟩ := qtv h hi (by omega) hl
    rw [hg, ja]
    refine .cond (fun _ => .pure hQ) fun h2 => ?_
    have h2 := dF h2
    rw [qia q.2 hwq, ja]
    refine .cond (fun _ => .pure hQ) fun h3 => next (nF h3) ?_
    rw [hx] at d3 ⊢
    exact qxt (fun _ _ _ a b => by omega) d3 (by omega)
  · have h0 := dF h0
    rw [qia q.2 hwq, ja]
    refine .cond (fun _ => .pure hQ) fun h3 => next (nF h3) ?_
    rw [jB (l := done) (by omega)]
    exact Je ..
theorem qBX (fuel : Nat) (hf : 1000000000 < fuel) (b : En) (hl : b.length ≤ 9000000000000000000) (hw : ∀ q ∈ b, wt q.2 ≤ 1000000000) : Yl (qdu fuel b) fun r => r = true → za9 b := by
 unfold qdu
 refine qBz b hl (fun h => by cases h) (fun h1 h2 h3 => ?_) b [] 0 rfl rfl hw ⟨fun q h => (by cases h), fun q h => (by cases h), List.Pairwise.nil⟩
 unfold qeW
 exact .bind (quu b fuel hf b hw) fun r hr => .pure fun h => ⟨h1, h2, h3, hr h⟩
theorem quV : ∀ {b : En}, (b.Pairwise fun q r => q.1 < r.1) → ∀ q ∈ b, zp b q.1 = some q.2
 | p :: b, h, q, hq => by
  obtain ⟨h1, h2⟩ := vZ.1 h
  rw [zp]
  rcases jh.1 hq with rfl | hq
  · rw [if_pos rfl]
  · have := h1 q hq
    rw [if_neg (by omega)]
    exact quV h2 q hq
theorem qsz : ∀ (b : En) (lo hi : Int), (b.Pairwise fun q r => q.1 < r.1) → (∀ q ∈ b, lo ≤ q.1 ∧ q.1 < hi) → lo ≤ hi → (b.length : Int) ≤ hi - lo
 | [], lo, hi, _, _, h => by simp; omega
 | p :: b, lo, hi, h, hv, hlh => by
  obtain ⟨h1, h2⟩ := vZ.1 h
  have hp := hv p (jd ..)
  have := qsz b (p.1 + 1) hi h2 (fun q hq => by have := h1 q hq; have := hv q (je _ hq); omega) (by omega)
  rw [jg]
  omega
theorem za9.len {b : En} (h : za9 b) : b.length ≤ 1048577 := by
 have := qsz b 0 1048577 h.s (fun q hq => by have := h.v q hq; omega) (by omega)
 omega
/-! ### layer 21 -/
theorem qrz (n : Int) : ∀ l : List Int, Yl (qbU (some false) n l) fun _ => True
 | [] => by rw [qbU]; exact .pure trivial
 | x :: l => by rw [qbU]; exact .cond (fun _ => .pure trivial) fun _ => qrz n l
theorem qzG (f : qq) : ∀ (l : List Int) (i : Nat), i + l.length = f.f1_IDs.length → Yl (qbo (some true) f l i) fun _ => True
 | [], i, _ => by rw [qbo]; exact .pure trivial
 | x :: l, i, h => by
  rw [jg] at h
  rw [qbo]
  refine .cond (fun _ => .pure trivial) fun _ => ?_
  rw [show yt f.f1_IDs 0 (i : Int) = some ((f.f1_IDs.take (i : Int).toNat).drop (0 : Int).toNat) by unfold yt; rw [if_pos (by omega)], ja]
  exact .bind (qrz x _) fun _ _ => .cond (fun _ => .pure trivial) fun _ => qzG f l (i + 1) (by omega)
theorem qqu (f : qq) : Yl (qdl f) fun b => b = true → f.f1_IDs.length ≤ 4 := by
 unfold qdl
 refine .cond (fun _ => .pure fun h => by cases h) fun _ => .cond (fun _ => .pure fun h => by cases h) fun _ => .cond (fun _ => .pure fun h => by cases h) fun _ => .cond (fun _ => .pure fun h => by cases h) fun h => ?_
 have h := dF h
 exact (qzG f _ 0 (by omega)).mono fun _ _ _ => by omega
theorem qti (a b : Int) : Yl (qc2 a b) fun _ => True := by
 unfold qc2
 exact .cond (fun _ => .pure trivial) fun _ => .cond (fun _ => .pure trivial) fun _ => .pure trivial
theorem qqR (b : qq) : ∀ (l : List Int) (c : Int) (i : Nat), Yl (qa2 (fun c => some c) b l c i) fun _ => True
 | [], c, i => by rw [qa2]; exact .pure trivial
 | x :: l, c, i => by
  rw [qa2]
  refine .cond (fun h => .cond (fun _ => ?_) fun _ => .pure trivial) fun _ => .pure trivial
  have h := dT h
  obtain ⟨y, hy, _⟩ := yw (l := b.f1_IDs) (i := (i : Int)) (by omega) h
  rw [hy, ja]
  exact .bind (qti x y) fun c' _ => qqR b l c' (i + 1)
theorem qrA (a b : qq) : Yl (qcz a b) fun _ => True := by
 unfold qcz qdZ
 exact .bind (qti _ _) fun r _ => .cond (fun _ => .bind (qti _ _) fun c _ => qqR b _ c 0) fun _ => qqR b _ r 0
theorem qwn (l : List qq) (hl : l.length ≤ 9000000000000000000) : ∀ (rest done : List qq) (i : Nat), l = done ++ rest → i = done.length → Yl (qar (some true) l rest i) fun b => b = true → ∀ f ∈ rest, f.f1_IDs.length ≤ 4
 | [], done, i, h, hi => by rw [qar]; exact .pure fun _ f h => by cases h
 | q :: rest, done, i, h, hi => by
  rw [qar]
  refine .bind (qqu q) fun b hb => .cond (fun _ => .pure fun h => by cases h) fun h1 => ?_
  have next : Yl (qar (some true) l rest (i + 1)) fun b => b = true → ∀ f ∈ q :: rest, f.f1_IDs.length ≤ 4 := (qwn l hl rest (done ++ [q]) (i + 1) (by rw [h, ji]; rfl) (by rw [jf, jp]; omega)).mono fun b' h2 h3 f hf => by
   rcases jh.1 hf with rfl | hf
   · exact hb (nF h1)
   · exact h2 h3 f hf
  refine .cond (fun h0 => ?_) fun _ => next
  have h0 := dT h0
  obtain ⟨pre, x, hx, hg⟩ := qtv h hi (by omega) hl
  rw [hg, ja]
  exact .bind (qrA x q) fun _ _ => .cond (fun _ => .pure fun h => by cases h) fun _ => next
theorem qw4 (l : List qq) : Yl (qdr l) fun b => b = true → (∀ f ∈ l, f.f1_IDs.length ≤ 4) ∧ l.length ≤ 5000 := by
 unfold qdr
 refine .cond (fun _ => .pure fun h => by cases h) fun hl => ?_
 have hl := dF hl
 exact (qwn l (by omega) l [] 0 rfl rfl).mono fun b hb h => ⟨hb h, by omega⟩
/-! ### layer 23: states -/
theorem qxC {Q : Bool → Prop} (hQ : Q false) (b : En) (fresh : Int) {k : Option Bool} : ∀ l : List Int, ((∀ x ∈ l, x < fresh ∧ zp b x = none) → Yl k Q) → Yl (qbL k b fresh l) Q
 | [], hk => by rw [qbL]; exact hk fun x h => by cases h
 | x :: l, hk => by
  rw [qbL]
  refine .cond (fun _ => .pure hQ) fun h1 => ?_
  have h1 := dF h1
  rw [qml, ja]
  refine .cond (fun _ => .pure hQ) fun h => qxC hQ b fresh l fun hl => hk fun y hy => ?_
  rcases jh.1 hy with rfl | hy
  · exact ⟨by omega, by simpa using h⟩
  · exact hl y hy
theorem qtA (b : En) (fresh : Int) (l : List Int) : Yl (qc4 l fresh b) fun r => r = true → ∀ x ∈ l, x < fresh ∧ zp b x = none := by
 unfold qc4
 exact qxC (fun h => by cases h) b fresh l fun h => .pure fun _ => h
theorem quT (fuel : Nat) (hf : 1000000000 < fuel) (g : Gl) (hw : wtL g.ts ≤ 1000000000) (b : En) (fresh : Int) : Yl (qdH fuel g fresh b) fun r => r = true → ∀ x ∈ zw g.ts, zp b x = none := by
 unfold qdH qcR
 rw [qn8 fuel g.ts (by omega) hw, ja, ja]
 exact .bind (qtA b fresh _) fun r hr => .pure fun h x hx => (hr h x (qkM.2 (.inr hx))).2
theorem qyd (id : Int) : ∀ l : List (Int × At), Yl (qbH (some ((⟨⟨#[]⟩, []⟩ : At), false)) id l) fun r => r.2 = true → (id, r.1) ∈ l
 | [] => by rw [qbH]; exact .pure fun h => by cases h
 | q :: l => by
  rw [qbH]
  refine .cond (fun h => .pure fun _ => ?_) fun _ => (qyd id l).mono fun r hr h => je _ (hr h)
  rw [← eT h]
  exact jd ..
theorem qwW (l : List (Int × At)) (id : Int) : Yl (qes l id) fun r => r.2 = true → (id, r.1) ∈ l := qyd id l
structure zaT (l : List (Int × At)) (b : En) (h : List qq) (next fresh : Int) : Prop where
 st : StOk l
 bd : za9 b
 hl : h.length ≤ 5000
 hi : ∀ f ∈ h, f.f1_IDs.length ≤ 4
 n1 : 1 ≤ next
 n2 : next ≤ 2147483648
 f1 : 0 ≤ fresh
 f2 : fresh ≤ 1048576
 id : ∀ q ∈ l, q.1 < next
 fr : ∀ q ∈ l, ∀ x ∈ zw q.2.ts, zp b x = none
theorem qBG (l : List (Int × At)) {k : Option Bool} {Q : Bool → Prop} (hQ : Q false) (hk : Yl k Q) : ∀ ids : List Int, Yl (qbj k l ids) Q
 | [] => by rw [qbj]; exact hk
 | x :: ids => by
  rw [qbj]
  exact .bind (qwW l x) fun _ _ => .cond (fun _ => .pure hQ) fun _ => qBG l hQ hk ids
theorem qBh (l : List (Int × At)) {p : qn} (hp : yV p) {Q : Bool → Prop} (hQ : Q false) (hT : Q true) : ∀ h : List qq, Yl (qbh (some true) l p h) Q
 | [] => by rw [qbh]; exact .pure hT
 | f :: h => by
  rw [qbh]
  refine .cond (fun _ => .pure hQ) fun h1 => .cond (fun _ => .pure hQ) fun h2 => ?_
  have h1 := dF h1
  have h2 := dF h2
  obtain ⟨r, hr, hrm⟩ := yw (l := p.f1_Rules) (i := f.f0_Rule) (by omega) (by omega)
  have h4 := (hp.r r hrm).h4
  rw [jf] at h4
  rw [hr, ja, qaP, ja]
  refine .cond (fun _ => .pure hQ) fun _ => ?_
  rw [qmN (by omega), ja]
  exact .cond (fun _ => .pure hQ) fun _ => qBG l hQ (qBh l hp hQ hT h) _
theorem qB3 {Q : Bool → Prop} (hQ : Q false) (b : En) (fresh : Int) (fuel : Nat) (hf : 1000000000 < fuel) {k : Option Bool} (hk : Yl k Q) : ∀ l : En, (∀ q ∈ l, wt q.2 ≤ 1000000000) → Yl (qbc k b fresh fuel l) Q
 | [], _ => by rw [qbc]; exact hk
 | q :: l, hw => by
  have hq := hw q (jd ..)
  rw [qbc]
  refine .cond (fun _ => .pure hQ) fun _ => ?_
  rw [qrL fuel q.2 (by omega) hq, ja]
  exact .bind (qtA b fresh _) fun _ _ => .cond (fun _ => .pure hQ) fun _ => qB3 hQ b fresh fuel hf hk l fun x hx => hw x (je _ hx)
theorem qBn {Q : Bool → Prop} (hQ : Q false) (b : En) (fresh next : Int) (p : qn) (fuel : Nat) (hf : 1000000000 < fuel) {k : Option Bool} : ∀ l : List (Int × At), (∀ q ∈ l, zn q.2 = true) → ((∀ q ∈ l, q.1 < next) → (∀ q ∈ l, ∀ x ∈ zw q.2.ts, zp b x = none) → Yl k Q) → Yl (qbf k b fresh fuel next p l) Q
 | [], _, hk => by rw [qbf]; exact hk (fun q h => by cases h) fun q h => by cases h
 | q :: l, hr, hk => by
  have hq := (qgp (hr q (jd ..))).2.1
  rw [qbf]
  refine .cond (fun _ => .pure hQ) fun h1 => .bind (qre _ _ _) fun _ _ => .cond (fun _ => .pure hQ) fun _ => ?_
  have h1 := dF h1
  unfold qep
  rw [qn8 fuel q.2.ts (by omega) (by omega), ja, ja]
  refine .bind (qtA b fresh _) fun r hr' => .cond (fun _ => .pure hQ) fun h2 => qBn hQ b fresh next p fuel hf l (fun x hx => hr x (je _ hx)) fun k1 k2 => hk (fun x hx => ?_) fun x hx v hv => ?_
  · rcases jh.1 hx with rfl | hx
    · omega
    · exact k1 x hx
  · rcases jh.1 hx with rfl | hx
    · exact (hr' (nF h2) v (qkM.2 (.inr hv))).2
    · exact k2 x hx v hv
theorem qxf (fuel : Nat) (hf : 1000000000 < fuel) {p : qn} (hp : yV p) (l : List (Int × At)) (b : En) (h : List qq) (next fresh : Int) (hl : ∀ q ∈ l, wtL q.2.ts ≤ 1000000000) (hbl : b.length ≤ 9000000000000000000) (hb : ∀ q ∈ b, wt q.2 ≤ 1000000000) : Yl (qdR fuel p l b h next fresh) fun r => r = true → zaT l b h next fresh := by
 unfold qdR
 refine .bind (qAg l hl) fun r1 h1 => .cond (fun _ => .pure fun h => by cases h) fun e1 => .bind (qBX fuel hf b hbl hb) fun r2 h2 => .cond (fun _ => .pure fun h => by cases h) fun e2 => .bind (qw4 h) fun r3 h3 => .cond (fun _ => .pure fun h => by cases h) fun e3 => ?_
 refine .cond (fun _ => .pure fun h => by cases h) fun n1 => .cond (fun _ => .pure fun h => by cases h) fun n2 => .cond (fun _ => .pure fun h => by cases h) fun f1 => .cond (fun _ => .pure fun h => by cases h) fun f2 => ?_
 have n1 := dF n1
 have n2 := dF n2
 have f1 := dF f1
 have f2 := dF f2
 have st := h1 (nF e1)
 have h3 := h3 (nF e3)
 refine qBn (fun h => by cases h) b fresh next p fuel hf l st.a fun k1 k2 => qB3 (fun h => by cases h) b fresh fuel hf (qBh l hp (fun h => by cases h) (fun _ => ?_) h) b hb
 exact ⟨st, h2 (nF e2), h3.2, h3.1, by omega, by omega, by omega, by omega, k1, k2⟩
/-! ### layer 7 once more: the solved form's terms are small -/
theorem qsR {Q : List (Int × T) × Int → Prop} (hno : Q ([], 13)) (b : List T) (fuel : Nat) (hf : 1500000000 < fuel) {M : Nat} (hM : M ≤ 300000000) (k : List Nd → List Int → BsR) (hk : ∀ g c, StG g c → Kd M g → g.length ≤ 600000000 → Yl (k g c) Q) (hb : ∀ t ∈ b, yE t ∧ wt t ≤ M) :
 ∀ (l : List T) (i : Nat) (g : List Nd) (c : List Int), i + l.length = b.length → (∀ t ∈ l, yE t ∧ wt t ≤ M) → StG g c → Kd M g → zbl g → g.length + wtL l + wtL (b.drop i) ≤ 600000000 → Yl (qS k b fuel l i g c) Q
 | [], i, g, c, _, _, hs, hkd, _, hw => by
  rw [qS]
  exact hk g c hs hkd (by omega)
 | t :: l, i, g, c, hi, ht, hs, hkd, hv, hw => by
  rw [jg] at hi
  obtain ⟨u, hu, hum⟩ := yw (l := b) (i := (i : Int)) (by omega) (by omega)
  have hd : b.drop i = u :: b.drop (i + 1) := by
   rw [qdy] at hu
   rw [jV (by omega)]
   rw [jq (by omega)] at hu
   rw [Option.some.inj hu]
  have hdrop : wtL (b.drop i) = wt u + wtL (b.drop (i + 1)) := by rw [hd, wtL]
  rw [wtL, hdrop] at hw
  obtain ⟨x, g1, c1, e1, E1, v1, _⟩ := qhH fuel t g c (ht t (jd ..)).1 (by omega) (ht t (jd ..)).2 hs hkd hv (by omega)
  obtain ⟨s1, k1, m1, x0, x1⟩ := E1
  have hl1 := y9.le (M := M) (c := c) (c1 := c1) ⟨s1, k1, m1⟩
  obtain ⟨y, g2, c2, e2, E2, v2, _⟩ := qhH fuel u g1 c1 (hb u hum).1 (by have := (hb u hum).2; omega) (hb u hum).2 s1 k1 v1 (by omega)
  obtain ⟨s2, k2, m2, y0, y1⟩ := E2
  have hl2 := y9.le (M := M) (c := c1) (c1 := c2) ⟨s2, k2, m2⟩
  have hc := qtc c2
  have hcl := s2.len
  obtain ⟨ok, c3, e3, s3, _, _⟩ := qny (g := g2) (by omega) fuel x y c2 s2 (by omega) (by omega) x0 (by omega) y0 y1
  rw [qS, e1, ja, hu, ja]
  dsimp only
  rw [e2, ja]
  dsimp only
  rw [e3, ja]
  exact .cond (fun _ => .pure hno) fun _ => qsR hno b fuel hf hM k hk hb l (i + 1) g2 c3 (by omega) (fun t h => ht t (je _ h)) s3 k2 v2 (by omega)
theorem qCu (fuel : Nat) (hf : 1500000000 < fuel) (a b : List T) (wa : wtL a ≤ 300000000) (wb : wtL b ≤ 300000000) : Yl (qaD fuel a b) (Ar fun p => wt p.2 ≤ 200) := by
 unfold qaD
 refine qnV _ (fun x => Yl x (Ar fun p => wt p.2 ≤ 200)) (.pure (.nil _)) a wa fun ha => qos _ (fun x => Yl x (Ar fun p => wt p.2 ≤ 200)) (.pure (.nil _)) b wb fun hb => ?_
 refine .cond (fun _ => .pure (.nil _)) fun hl => .bind (R := (Ar fun p => wt p.2 ≤ 200)) ?_ fun r hr => .pure hr
 have hl := bF hl
 unfold qb8
 refine qsR (.nil _) (M := 300000000) b fuel hf (jk _) _ (fun g c hs hk hg => ?_) (fun t ht => ⟨qgm (hb t ht), by have := qff ht; omega⟩) a 0 [] [] (by omega) (fun t ht => ⟨qgm (ha t ht), by have := qff ht; omega⟩) ⟨rfl, fun v hv => by simp at hv, fun v hv => by simp at hv, fun q hq => by simp at hq⟩ (fun q hq => by simp at hq) (fun q hq => by simp at hq) (by simp; omega)
 obtain ⟨m, ok, e, hok⟩ := qoQ (M := 300000000) (by omega) (by omega) hs hk fuel (by omega)
 rw [e, ja]
 refine .cond (fun _ => .pure (.nil _)) fun h => ?_
 exact qop (M := 300000000) (by omega) hs fuel (by omega) (m, ok) (hok (nF h)) (fun p => wt p.2 ≤ 200) (fun i q v t hq hqk hv ht hw => hw) fuel 0 [] (by omega) (by omega) (by simp) (fun p hp => by cases hp)
/-! ### layer 10 -/
theorem qxZ (k : List T → List T → Option (List (Int × T) × Int)) : ∀ (b : En) (l m : List T), l.length + b.length ≤ 1000000000 → m.length + b.length ≤ 1000000000 → qbJ k b l m = k (l ++ b.map fun q => T.mk 1 q.1 ⟨#[]⟩ []) (m ++ b.map fun q => q.2)
 | [], l, m, _, _ => by rw [qbJ]; simp
 | q :: b, l, m, hl, hm => by
  rw [jg] at hl hm
  rw [qbJ, qg5 (by omega) (n := b.length) (by omega), ja, qg5 (by omega) (n := b.length) (by omega), ja, qxZ k b _ _ (by rw [jf, jp]; omega) (by rw [jf, jp]; omega)]
  simp
theorem qx3 (fuel : Nat) (b : En) (s t : T) (hb : b.length ≤ 100000000) : qem fuel b s t = (qaD fuel (s :: b.map fun q => T.mk 1 q.1 ⟨#[]⟩ []) (t :: b.map fun q => q.2)).bind fun r => some (r.1, r.2) := by
 unfold qem
 rw [qxZ _ b [s] [t] (by simp; omega) (by simp; omega)]
 rfl
theorem qrb : ∀ b : En, wtL (b.map fun q => T.mk 1 q.1 ⟨#[]⟩ []) = b.length
 | [] => rfl
 | q :: b => by rw [jl, wtL, qrb b, wt, wtL, jg]; omega
theorem qn5 : ∀ b : En, (∀ q ∈ b, wt q.2 ≤ 200) → wtL (b.map fun q => q.2) ≤ 200 * b.length
 | [], _ => by simp [wtL]
 | q :: b, h => by
  have h1 := h q (jd ..)
  have h2 := qn5 b fun x hx => h x (je _ hx)
  rw [jl, wtL, jg]
  omega
theorem qnJ (b : En) : ∀ (c : En) (out : List Int), out.length + c.length ≤ 1000000000 → Yl (qaY (fun o => some o) b c out) fun _ => True
 | [], out, _ => by rw [qaY]; exact .pure trivial
 | q :: c, out, h => by
  rw [jg] at h
  rw [qaY, qml, ja]
  refine .cond (fun _ => ?_) fun _ => qnJ b c out (by omega)
  rw [qg5 (by omega) (n := c.length) (by omega), ja]
  exact qnJ b c _ (by rw [jf, jp]; omega)
theorem qrs (fuel : Nat) (hf : 1500000000 < fuel) {b : En} (hb : za9 b) {s t : T} (hs : wt s ≤ 1000000) (ht : wt t ≤ 1000000) : Yl (qdw fuel b s t) fun r => r = true → zM s = true ∧ zM t = true := by
 have hl := hb.len
 unfold qdw
 refine .bind (qBX fuel (by omega) b (by omega) fun q hq => by have := (qhI (hb.t q hq)).2; omega) fun r hr => .cond (fun _ => ?_) fun _ => .pure fun h => by cases h
 rw [qia s (by omega), ja]
 refine .cond (fun h1 => ?_) fun _ => .pure fun h => by cases h
 rw [qia t (by omega), ja]
 exact .pure fun h2 => ⟨h1, h2⟩
structure Gud (b c : En) : Prop where
 w : ∀ q ∈ c, wt q.2 ≤ 200
 z : ∀ v, zp b v = none → gz (zp c) v = 1
theorem Gud.self {b : En} (hb : za9 b) : Gud b b := ⟨fun q hq => (qhI (hb.t q hq)).2, fun v hv => by unfold gz; rw [hv]; rfl⟩
mutual
theorem qxg {θ θ' : Int → T} : ∀ t : T, zK t = true → (∀ v ∈ yh t, θ v = θ' v) → thT θ t = thT θ' t
 | .mk k i s ar, h, hv => by
  by_cases h1 : k = 1
  · subst h1
    rw [qpd θ rfl, qpd θ' rfl]
    exact hv _ (by rw [qsN (t := .mk 1 i s ar) rfl]; exact jm.2 rfl)
  · rw [qqK θ (t := .mk k i s ar) h1, qqK θ' (t := .mk k i s ar) h1]
    by_cases h2 : k = 2
    · subst h2
      rw [ql6 rfl, jj] at h
      show T.mk 2 i s (thL θ ar) = T.mk 2 i s (thL θ' ar)
      rw [qt7 ar h.2 fun v hv' => hv v (by rw [qsC (t := .mk 2 i s ar) rfl]; exact hv')]
    · have h0 : ar.length = 0 := by
       by_cases e : k = 0
       · subst e
         rw [ql8 rfl] at h
         exact (of_decide_eq_true h).2.2.2
       · rw [qm4 (t := .mk k i s ar) e h1 h2] at h
         cases h
      show T.mk k i s (thL θ ar) = T.mk k i s (thL θ' ar)
      rw [jB h0, thL, thL]
theorem qt7 {θ θ' : Int → T} : ∀ l : List T, zI l = true → (∀ v ∈ zw l, θ v = θ' v) → thL θ l = thL θ' l
 | [], _, _ => by rw [thL, thL]
 | t :: l, h, hv => by
  rw [zI, jj] at h
  rw [thL, thL, qxg t h.1 fun v hv' => hv v (by rw [zw]; exact js _ hv'), qt7 l h.2 fun v hv' => hv v (by rw [zw]; exact jy _ hv')]
end
mutual
theorem qxG (θ : Int → T) : ∀ t : T, zl t ≤ zl (thT θ t)
 | .mk k i s ar => by
  by_cases h1 : k = 1
  · rw [qiF (t := .mk k i s ar) (show k ≠ 2 by omega)]
    exact qnD _
  · rw [qqK θ (t := .mk k i s ar) h1]
    by_cases h2 : k = 2
    · rw [qmx (t := .mk k i s ar) h2, qmx (t := T.mk (T.mk k i s ar).k _ _ _) h2]
      have := quj θ ar
      show 1 + zm ar ≤ 1 + zm (thL θ ar)
      omega
    · rw [qiF (t := .mk k i s ar) h2]
      exact qnD _
theorem quj (θ : Int → T) : ∀ l : List T, zm l ≤ zm (thL θ l)
 | [] => by rw [thL]; exact jk _
 | t :: l => by
  have := qxG θ t
  have := quj θ l
  rw [thL, zm, zm]
  omega
end
theorem qy2 {t : T} (h : zK t = true) (hk : t.k = 0) : t = .mk 0 t.i ⟨#[]⟩ [] := by
 rw [ql8 hk] at h
 have h := of_decide_eq_true h
 rw [← qwu t, hk]
 show T.mk 0 t.i t.s t.ar = T.mk 0 t.i ⟨#[]⟩ []
 rw [jB h.2.2.2, show t.s = ⟨#[]⟩ from qm6 (h.2.2.1.trans (by rw [Lib.toList_data]))]
theorem qCb {b : En} (hb : za9 b) (σ : Int → T) (hσ : ∀ v, zl (σ v) = 1) {c : En} (h : ∀ p ∈ c, thT σ ((zp b p.1).getD (T.mk 1 p.1 ⟨#[]⟩ [])) = thT (fun v => thT σ ((zp b v).getD (T.mk 1 v ⟨#[]⟩ []))) p.2 ∧ wt p.2 ≤ 200) : Gud b c := by
 refine ⟨fun q hq => (h q hq).2, fun v hv => ?_⟩
 unfold gz
 cases hc : zp c v with
 | none => rfl
 | some u =>
  have e := (h (v, u) (qtP hc)).1
  dsimp only at e
  rw [hv] at e
  have e1 : thT σ ((none : Option T).getD (T.mk 1 v ⟨#[]⟩ [])) = σ v := qpd σ rfl
  rw [e1] at e
  have h1 := qxG (fun v => thT σ ((zp b v).getD (T.mk 1 v ⟨#[]⟩ []))) u
  rw [← e, hσ] at h1
  have := qnD u
  show zl u = 1
  omega
theorem qBu {b : En} (hb : za9 b) (σ : Int → T) : thL (fun v => thT σ ((zp b v).getD (T.mk 1 v ⟨#[]⟩ []))) (b.map fun q => T.mk 1 q.1 ⟨#[]⟩ []) = thL (fun v => thT σ ((zp b v).getD (T.mk 1 v ⟨#[]⟩ []))) (b.map fun q => q.2) := by
 rw [qjK, qjK, jJ, jJ]
 refine List.map_congr_left fun q hq => ?_
 show thT _ (T.mk 1 q.1 ⟨#[]⟩ []) = thT _ q.2
 rw [qpd _ rfl]
 show thT σ ((zp b q.1).getD _) = _
 rw [quV hb.s q hq]
 refine (qxg q.2 (qhI (hb.t q hq)).1 fun v hv => ?_).symm
 rw [hb.f q hq v hv]
 exact qpd σ rfl
theorem qyM (fuel : Nat) (hf : 1500000000 < fuel) {b : En} (hb : za9 b) (s : T) (hs : wt s ≤ 1000000) (hfree : s.k = 1 → zp b s.i = none) (n : Int) : Yl (qcF fuel b s (T.mk 0 n ⟨#[]⟩ [])) fun r => r.2.2 = 0 → Gud b r.1 := by
 have hl := hb.len
 have hbw : ∀ q ∈ b, wt q.2 ≤ 200 := fun q hq => (qhI (hb.t q hq)).2
 have w1 := qrb b
 have w2 := qn5 b hbw
 have wn : wt (T.mk 0 n ⟨#[]⟩ []) = 1 := by rw [wt, wtL]
 have wa : wtL (s :: b.map fun q => T.mk 1 q.1 ⟨#[]⟩ []) ≤ 300000000 := by rw [wtL]; omega
 have wb : wtL (T.mk 0 n ⟨#[]⟩ [] :: b.map fun q => q.2) ≤ 300000000 := by rw [wtL]; omega
 unfold qcF
 refine .bind (qrs fuel hf hb hs (by omega)) fun r hr => .cond (fun _ => .pure fun h => absurd h (show ¬ (2 : Int) = 0 by omega)) fun h => ?_
 obtain ⟨hrs, _⟩ := hr (nF h)
 have hsf := (qhI hrs).1
 rw [qx3 fuel b s _ (by omega)]
 have fin : ∀ σ : Int → T, (∀ v, zl (σ v) = 1) → thT (fun v => thT σ ((zp b v).getD (T.mk 1 v ⟨#[]⟩ []))) s = T.mk 0 n ⟨#[]⟩ [] → Yl (((qaD fuel (s :: b.map fun q => T.mk 1 q.1 ⟨#[]⟩ []) (T.mk 0 n ⟨#[]⟩ [] :: b.map fun q => q.2)).bind fun r => some (r.1, r.2)).bind fun r_3 => (bif (r_3.2 != (0 : Int)) then some ([], [], r_3.2) else ((qdo b r_3.1).bind fun r_5 => some (r_3.1, r_5, 0)))) fun r => r.2.2 = 0 → Gud b r.1 := fun σ hσ e => by
  refine .bind (R := Ar fun p => thT σ ((zp b p.1).getD (T.mk 1 p.1 ⟨#[]⟩ [])) = thT (fun v => thT σ ((zp b v).getD (T.mk 1 v ⟨#[]⟩ []))) p.2 ∧ wt p.2 ≤ 200) ?_ fun r hr => .cond (fun h1 => .pure fun h2 => absurd h2 (bT h1)) fun _ => ?_
  · refine .bind (qBL (fun v => thT σ ((zp b v).getD (T.mk 1 v ⟨#[]⟩ []))) fuel hf _ _ ?_ wa wb) fun r hr => .pure hr
    rw [thL, thL, e, qBu hb σ, qqK _ (show (T.mk 0 n ⟨#[]⟩ []).k ≠ 1 by simp [T.k])]
    rfl
  · have hlen := hr.2
    unfold qdo
    exact .bind (qnJ b r.1 [] (by simp; omega)) fun _ _ => .pure fun _ => qCb hb σ hσ hr.1
 by_cases h1 : s.k = 1
 · refine fin (fun v => if v = s.i then T.mk 0 n ⟨#[]⟩ [] else T.mk 1 v ⟨#[]⟩ []) (fun v => ?_) ?_
   · split
     · exact qiF (by simp [T.k])
     · exact qiF (by simp [T.k])
   · rw [qpd _ h1, hfree h1]
     show thT _ (T.mk 1 s.i ⟨#[]⟩ []) = _
     rw [qpd _ rfl]
     exact if_pos rfl
 · by_cases h0 : s.k = 0 ∧ s.i = n
   · have e := qy2 hsf h0.1
     rw [h0.2] at e
     refine fin (fun v => T.mk 1 v ⟨#[]⟩ []) (fun v => qiF (by simp [T.k])) ?_
     rw [e, qqK _ (by simp [T.k])]
     rfl
   · refine .bind (R := fun r => r.2 ≠ 0) (.bind (qvZ fuel hf s _ _ _ h1 (by simp [T.k]) ?_ wa wb) fun r hr => .pure hr) fun r hr => .cond (fun h1 => .pure fun h2 => absurd h2 (bT h1)) fun h => absurd (bF h) hr
     show s.k ≠ 0 ∨ s.i ≠ n
     omega
/-! ### layer 10: any two terms -/
theorem qBg (fuel : Nat) (hf : 1500000000 < fuel) {b : En} (hb : za9 b) (s t : T) (hs : wt s ≤ 1000000) (ht : wt t ≤ 1000000) : Yl (qcF fuel b s t) fun r => r.2.2 = 0 → ∀ q ∈ r.1, wt q.2 ≤ 200 := by
 have hl := hb.len
 have hbw : ∀ q ∈ b, wt q.2 ≤ 200 := fun q hq => (qhI (hb.t q hq)).2
 have w1 := qrb b
 have w2 := qn5 b hbw
 unfold qcF
 refine .bind (qrs fuel hf hb hs ht) fun r hr => .cond (fun _ => .pure fun h => absurd h (show ¬ (2 : Int) = 0 by omega)) fun h => ?_
 rw [qx3 fuel b s t (by omega)]
 refine .bind (R := Ar fun p => wt p.2 ≤ 200) (.bind (qCu fuel hf _ _ (by rw [wtL]; omega) (by rw [wtL]; omega)) fun r hr => .pure hr) fun r hr => .cond (fun h1 => .pure fun h2 => absurd h2 (bT h1)) fun _ => ?_
 have hlen := hr.2
 unfold qdo
 exact .bind (qnJ b r.1 [] (by simp; omega)) fun _ _ => .pure fun _ => hr.1
theorem qwm (fuel : Nat) (hf : 1500000000 < fuel) {b : En} (hb : za9 b) (s t : T) (hs : wt s ≤ 200) (ht : wt t ≤ 200) (hfree : s.k = 1 → zp b s.i = none) : Yl (qdS fuel b s t) fun r => r.2.2 = 0 → Gud b r.1 := by
 have hbw : ∀ q ∈ b, wt q.2 ≤ 200 := fun q hq => (qhI (hb.t q hq)).2
 unfold qdS
 refine .bind (qrs fuel hf hb (by omega) (by omega)) fun r hr => .cond (fun _ => .pure fun h => absurd h (show ¬ (2 : Int) = 0 by omega)) fun h => ?_
 rw [qyr b fuel t (by omega) (by omega), ja]
 have hw := qBw (by omega) hbw t
 have hw2 : wt t * 200 ≤ 200 * 200 := jL _ ht
 obtain ⟨e, he⟩ := qmE fuel (apT b t) (by omega)
 rw [he, ja]
 refine .cond (fun h1 => .pure fun h2 => absurd h2 (bT h1)) fun _ => .bind (qyM fuel hf hb s (by omega) hfree e.1) fun r hr => .pure hr
theorem two {α : Type} {l : List α} (h : l.length = 2) : ∃ a b, l = [a, b] := by
 match l, h with
 | [a, b], _ => exact ⟨a, b, rfl⟩
theorem qym {g : Gl} (hg : zz g = true) (h : g.op = 3 ∨ g.op = 4) : ∃ s t, g.ts = [s, t] ∧ wt s ≤ 200 ∧ wt t ≤ 200 := by
 obtain ⟨h1, h2⟩ := qmI (by omega) hg
 have hl : g.ts.length = 2 := by
  unfold yD at h1
  rcases h with h | h <;> (rw [h] at h1; simp at h1; omega)
 obtain ⟨s, t, e⟩ := two hl
 have hw := (qn2 h2).2
 rw [e, wtL, wtL, wtL] at hw
 exact ⟨s, t, e, by omega, by omega⟩
theorem qvW {g : Gl} (hg : zz g = true) : 0 ≤ g.op ∧ g.op ≤ 12 := by
 by_cases h : g.op = 0
 · omega
 · have h1 := (qmI h hg).1
   unfold yD at h1
   split at h1
   · omega
   · split at h1
     · omega
     · split at h1
       · omega
       · omega
theorem qvJ (fuel : Nat) (hf : 1500000000 < fuel) {b : En} (hb : za9 b) (g : Gl) (hg : zz g = true) (h0 : g.op ≠ 0) (h4 : g.op ≤ 4) (hfr : ∀ v ∈ zw g.ts, zp b v = none) : Yl (qd9 fuel b g) fun r => r.2.2 = 0 → (∀ q ∈ r.1, wt q.2 ≤ 200) ∧ (g.op ≠ 3 → Gud b r.1) := by
 unfold qd9
 refine .cond (fun _ => .pure fun _ => ⟨(Gud.self hb).w, fun _ => .self hb⟩) fun h1 => .cond (fun _ => .pure fun h => absurd h (show ¬ (13 : Int) = 0 by omega)) fun h2 => ?_
 have h1 := eF h1
 have h2 := eF h2
 have hop := qvW hg
 obtain ⟨s, t, e, hs, ht⟩ := qym hg (by omega)
 have g0 : zj g.ts 0 = some s := by rw [e]; rfl
 have g1 : zj g.ts 1 = some t := by rw [e]; rfl
 refine .cond (fun h3 => ?_) fun h3 => ?_
 · have h3 := eT h3
   rw [g0, ja, g1, ja]
   exact .bind (qBg fuel hf hb s t (by omega) (by omega)) fun r hr => .pure fun h => ⟨hr h, fun h => absurd h3 h⟩
 · rw [g0, ja, g1, ja]
   refine .bind (qwm fuel hf hb s t hs ht fun hk => hfr s.i ?_) fun r hr => .cond (fun _ => .pure fun h => ⟨(hr h).w, fun _ => hr h⟩) fun h => .cond (fun h6 => .pure fun h => ?_) fun _ => .pure fun h => absurd h (show ¬ (13 : Int) = 0 by omega)
   · rw [e, zw, qsN hk]
     exact js _ (jm.2 rfl)
   · have := eT h6
     dsimp only at h
     omega
/-! ### layer 11 -/
theorem qCr (fuel : Nat) (hf : 1500000000 < fuel) {b : En} (hbw : ∀ q ∈ b, wt q.2 ≤ 200) (known : List Gl) (hk : ∀ g ∈ known, wtL g.ts ≤ 200) (g : Gl) (hg : wtL g.ts ≤ 40000) : Yl (qeQ fuel b known g) fun _ => True := by
 unfold qeQ
 rw [qoK b fuel g (by omega) (by omega), ja]
 have hw := qp3 (by omega) hbw g.ts
 have hw2 : wtL g.ts * 200 ≤ 40000 * 200 := jL _ hg
 have main : ∀ l : List Gl, (∀ g ∈ l, wtL g.ts ≤ 200) → Yl (qbE ((qdK fuel ⟨g.op, g.n, apL b g.ts⟩).bind fun r_4 => some r_4) b fuel ⟨g.op, g.n, apL b g.ts⟩ l) fun _ => True := fun l => by
  induction l with
  | nil =>
   intro _
   rw [qbE]
   obtain ⟨r, e⟩ := qzi fuel hf ⟨g.op, g.n, apL b g.ts⟩ (show wtL (apL b g.ts) ≤ 300000000 by omega)
   rw [e, ja]
   exact .pure trivial
  | cons x l ih =>
   intro h
   have hx := h x (jd ..)
   have hw3 := qp3 (by omega) hbw x.ts
   have ih := ih fun y hy => h y (je _ hy)
   rw [qbE, qsL ⟨g.op, g.n, apL b g.ts⟩ (show wtL (apL b g.ts) ≤ 1000000000 by omega), ja]
   refine .cond (fun _ => ?_) fun _ => ih
   rw [qoK b fuel x (by omega) (by omega), ja, qvO ⟨g.op, g.n, apL b g.ts⟩ _ (show wtL (apL b g.ts) ≤ 1000000000 by omega), ja]
   exact .cond (fun _ => .pure trivial) fun _ => ih
 exact main known hk
/-! ### layer 23: the heads of a rule and constraints -/
theorem quh (g : Int → Option T) : ∀ (ps ts l : List T), vL ps ts = some l → (∀ q ∈ (zw ps).zip l, ∃ u, g q.1 = some u ∧ zl u = zl q.2) → ts.map zl = ps.map (szT (gz g))
 | [], [], l, h, hq => rfl
 | p :: ps, t :: ts, l, h, hq => by
  rw [vL] at h
  cases ha : vT p t with
  | none =>
   rw [ha] at h
   cases h
  | some a =>
   cases hb : vL ps ts with
   | none =>
    rw [ha, hb] at h
    cases h
   | some b =>
    rw [ha, hb] at h
    obtain rfl := Option.some.inj h
    have hl := qt4 p t a ha
    rw [zw, List.zip_append hl.symm] at hq
    rw [jl, jl, qxH g p t a ha fun q h => hq q (js _ h), quh g ps ts b hb fun q h => hq q (jy _ h)]
 | [], _ :: _, l, h, _ => by
  rw [vL] at h
  cases h
 | _ :: _, [], l, h, _ => by
  rw [vL] at h
  cases h
theorem qx9 {f g : Int → Option T} {ps ts : List T} (h : mtc f (zw ps) (vL ps ts) = some g) : ts.map zl = ps.map (szT (gz g)) := by
 unfold mtc at h
 cases hv : vL ps ts with
 | none =>
  rw [hv] at h
  cases h
 | some l =>
  rw [hv, ja] at h
  exact quh g ps ts l hv (qnE _ f g h).2
theorem qwD : ∀ (l : List (Int × T)) (f g : Int → Option T), rn f l = some g → ∀ v, g v ≠ none → f v ≠ none ∨ v ∈ l.map (·.1)
 | [], f, g, h, v, hv => by
  rw [rn] at h
  cases h
  exact .inl hv
 | (x, u) :: l, f, g, h, v, hv => by
  cases hf : f x with
  | none =>
   rw [qn3 hf] at h
   rcases qwD l _ g h v hv with h1 | h1
   · unfold upd at h1
     by_cases e : v = x
     · exact .inr (by rw [e]; simp)
     · rw [if_neg e] at h1
       exact .inl h1
   · exact .inr (je _ h1)
  | some w =>
   rw [qob hf] at h
   split at h
   · rcases qwD l f g h v hv with h1 | h1
     · exact .inl h1
     · exact .inr (je _ h1)
   · cases h
theorem qAK {f g : Int → Option T} {o : List Int} {l : Option (List T)} (h : mtc f o l = some g) (v : Int) (hv : g v ≠ none) : f v ≠ none ∨ v ∈ o := by
 unfold mtc at h
 cases l with
 | none => cases h
 | some l =>
  rw [ja] at h
  refine (qwD _ f g h v hv).imp id fun h => ?_
  obtain ⟨q, hq, rfl⟩ := jA.1 h
  exact (List.of_mem_zip hq).1
def Fit1 (l : List (Int × At)) (env : En) (h : At) (i : Int) : Prop := ∃ a, (i, a) ∈ l ∧ h.n = a.n ∧ a.ts.map zl = h.ts.map (szT (gz (zp env))) ∧ ∀ v ∈ zw h.ts, (zp env v).isSome = true
def hm (l : List (Int × At)) (env : En) : List At → List Int → Prop
 | [], [] => True
 | h :: hs, i :: is => Fit1 l env h i ∧ hm l env hs is
 | [], _ :: _ => False
 | _ :: _, [] => False
theorem qzB {f g : Int → Nat} : ∀ l : List T, (∀ v ∈ zw l, f v = g v) → l.map (szT f) = l.map (szT g)
 | [], _ => rfl
 | t :: l, h => by
  rw [jl, jl, qq8 t fun v hv => h v (by rw [zw]; exact js _ hv), qzB l fun v hv => h v (by rw [zw]; exact jy _ hv)]
theorem Fit1.more {l : List (Int × At)} {env env' : En} (he : ∀ v u, zp env v = some u → zp env' v = some u) {h : At} {i : Int} (k : Fit1 l env h i) : Fit1 l env' h i := by
 obtain ⟨a, h1, h2, h3, h4⟩ := k
 refine ⟨a, h1, h2, ?_, fun v hv => ?_⟩
 · rw [h3]
   refine qzB _ fun v hv => ?_
   obtain ⟨u, hu⟩ := Option.isSome_iff_exists.1 (h4 v hv)
   unfold gz
   rw [hu, he v u hu]
 · obtain ⟨u, hu⟩ := Option.isSome_iff_exists.1 (h4 v hv)
   rw [he v u hu]
   rfl
theorem qxE {l : List (Int × At)} {env env' : En} (he : ∀ v u, zp env v = some u → zp env' v = some u) : ∀ (hs : List At) (is : List Int), hm l env hs is → hm l env' hs is
 | [], [], _ => trivial
 | h :: hs, i :: is, k => ⟨k.1.more he, qxE he hs is k.2⟩
 | [], _ :: _, k => k.elim
 | _ :: _, [], k => k.elim
theorem qws {l : List (Int × At)} {env : En} {h : At} {i : Int} (k : Fit1 l env h i) : ∀ (hs : List At) (is : List Int), hm l env hs is → hm l env (hs ++ [h]) (is ++ [i])
 | [], [], _ => ⟨k, trivial⟩
 | _ :: hs, _ :: is, k' => ⟨k'.1, qws k hs is k'.2⟩
 | [], _ :: _, k => k.elim
 | _ :: _, [], k => k.elim
theorem qz4 {Q : En × Bool → Prop} (hQ : Q ([], false)) {K : Option (En × Bool)} (ids : List Int) (i : Nat) (x : Int) (hx : zj ids (i : Int) = some x) : ∀ (n m : Nat), m + n ≤ ids.length → ((∀ j, m ≤ j → j < m + n → ids[j]? ≠ some x) → Yl K Q) → Yl (qbY K i ids n (m : Int)) Q
 | 0, m, _, hk => by
  rw [qbY]
  exact hk fun j h1 h2 => by omega
 | n + 1, m, hl, hk => by
  obtain ⟨y, hy, _⟩ := yw (l := ids) (i := (m : Int)) (by omega) (by omega)
  rw [qbY, hy, ja, hx, ja]
  refine .cond (fun _ => .pure hQ) fun h => ?_
  have h := eF h
  have := qz4 hQ ids i x hx n (m + 1) (by omega) (K := K) fun hj => hk fun j h1 h2 => by
   by_cases e : j = m
   · subst e
     rw [qdy] at hy
     rw [hy]
     exact fun h' => h (Option.some.inj h')
   · exact hj j (by omega) (by omega)
  rw [show (m : Int) + 1 = ((m + 1 : Nat) : Int) by omega]
  exact this
theorem qzS {Q : En × Bool → Prop} (hQ : Q ([], false)) (fuel : Nat) (hf : 1000000000 < fuel) {l : List (Int × At)} (hst : ∀ q ∈ l, wtL q.2.ts ≤ 200) (ids : List Int) (k : En → Option (En × Bool)) (all : List At) (hall : ∀ a ∈ all, zn a = true) (hlen : ids.length = all.length) (h4 : all.length ≤ 4) (hk : ∀ env, hm l env all ids → ids.Nodup → EnW 200 env → (∀ v, zp env v ≠ none → ∃ h ∈ all, v ∈ zw h.ts) → Yl (k env) Q) :
 ∀ (hs ds : List At) (env : En), all = ds ++ hs → hm l env ds (ids.take ds.length) → (ids.take ds.length).Nodup → EnW 200 env → (∀ v, zp env v ≠ none → ∃ h ∈ ds, v ∈ zw h.ts) → env.length ≤ 200 * ds.length → Yl (qb0 k fuel ids l hs env ds.length) Q
 | [], ds, env, he, h1, h2, h3, h3d, _ => by
  rw [qb0]
  rw [jx] at he
  subst he
  rw [jX (by omega)] at h1 h2
  exact hk env h1 h2 h3 h3d
 | h :: hs, ds, env, he, h1, h2, h3, h3d, hel => by
  have hl : all.length = ds.length + (hs.length + 1) := by rw [he, jf, jg]
  obtain ⟨x, hx, _⟩ := yw (l := ids) (i := (ds.length : Int)) (by omega) (by omega)
  have hx' := hx
  rw [qdy] at hx'
  have hh := (qgp (hall h (by rw [he]; simp))).2.1
  have hocc := qoR h.ts
  rw [qb0, show ((ds.length : Int) - 0 : Int).toNat = ds.length by omega, hx, ja]
  refine qz4 hQ ids ds.length x hx ds.length 0 (by omega) fun hne => ?_
  refine .bind (qwW l x) fun r hr => .cond (fun _ => .pure hQ) fun hfd => ?_
  have hmem := hr (nF hfd)
  have ha := hst _ hmem
  dsimp only at ha
  obtain ⟨env', ok, e, hres⟩ := qAo (W := 200) (by omega) fuel h r.1 env (by omega) (by omega) ha h3 (by omega)
  rw [e, ja]
  refine .cond (fun _ => .pure hQ) fun hok => ?_
  have hok := nF hok
  rcases hres with ⟨h5, _⟩ | ⟨_, h6, h7, h8⟩
  · dsimp only at hok
    rw [h5] at hok
    cases hok
  have hn : h.n = r.1.n := by
   by_cases hn : h.n = r.1.n
   · exact hn
   · rw [if_neg hn] at h6
     cases h6
  rw [if_pos hn] at h6
  obtain ⟨b1, b2, _⟩ := qyh h6
  have hsz := qx9 h6
  have := qzS hQ fuel hf hst ids k all hall hlen h4 hk hs (ds ++ [h]) env' (by rw [he, ji]; rfl) (by
   rw [jf, jp, List.take_add_one, hx']
   exact qws ⟨r.1, hmem, hn, hsz, b2⟩ _ _ (qxE b1 _ _ h1)) (by
   rw [jf, jp, List.take_add_one, hx']
   refine jI.2 ⟨h2, by simp, fun a ha b hb hab => ?_⟩
   simp only [Option.toList_some, jm] at hb
   subst hb
   subst hab
   obtain ⟨j, hj, e⟩ := List.getElem_of_mem ha
   rw [vw] at hj
   refine hne j (jc _) (by omega) ?_
   rw [List.getElem_take] at e
   rw [← e]
   exact jq _) h8 (fun v hv => by
   rcases qAK h6 v hv with h9 | h9
   · obtain ⟨h', hm', ho⟩ := h3d v h9
     exact ⟨h', js _ hm', ho⟩
   · exact ⟨h, by simp, h9⟩) (by rw [jf, jp]; omega)
  rw [jf, jp] at this
  exact this
theorem qzR (l : List qq) (f : qq) : Yl (qdc l f) fun _ => True := by
 unfold qdc
 induction l with
 | nil => rw [qcj]; exact .pure trivial
 | cons x l ih =>
  rw [qcj]
  exact .bind (qrA x f) fun _ _ => .cond (fun _ => .pure trivial) fun _ => ih
structure zan (l : List (Int × At)) (r : qD) (ids : List Int) (env : En) : Prop where
 len : ids.length = (r.f1_Keep ++ r.f2_Remove).length
 fit : hm l env (r.f1_Keep ++ r.f2_Remove) ids
 nd : ids.Nodup
 w : EnW 200 env
 dom : ∀ v, zp env v ≠ none → ∃ h ∈ r.f1_Keep ++ r.f2_Remove, v ∈ zw h.ts
theorem qBi (fuel : Nat) (hf : 1500000000 < fuel) {p : qn} (hp : yV p) {l : List (Int × At)} (hst : ∀ q ∈ l, wtL q.2.ts ≤ 200) {b : En} (hbw : ∀ q ∈ b, wt q.2 ≤ 200) (known : List Gl) (hk : ∀ g ∈ known, wtL g.ts ≤ 200) (h : List qq) (rule : Int) (r : qD) (hr : zj p.f1_Rules rule = some r) (ids : List Int) : Yl (qbP fuel p l b known h rule ids) fun e => e.2 = true → zan l r ids e.1 := by
 have hrule := hp.r r (qeK hr)
 have h4 := hrule.h4
 have h4' := h4
 rw [jf] at h4'
 unfold qbP
 rw [hr, ja, qmN (by omega), ja]
 refine .cond (fun _ => .pure fun h => by cases h) fun hlen => ?_
 have hlen := bF hlen
 refine qzS (fun h => by cases h) fuel (by omega) hst ids _ (r.f1_Keep ++ r.f2_Remove) hrule.a (by omega) h4 (fun env h1 h2 h3 h3d => ?_) _ [] [] rfl (by simp [hm]) (by simp) (fun q hq => by cases hq) (fun v hv => absurd rfl hv) (by simp)
 have guard : ∀ gs : List Gl, (∀ g ∈ gs, zz g = true) → Yl (qb1 ((qaP r).bind fun r_9 => (bif r_9 then ((qdc h (⟨rule, ids⟩ : qq)).bind fun r_11 => (bif r_11 then some ([], false) else some (env, true))) else some (env, true))) b env fuel known gs) fun e => e.2 = true → zan l r ids e.1 := fun gs => by
  induction gs with
  | nil =>
   intro _
   rw [qb1, qaP, ja]
   exact .cond (fun _ => .bind (qzR h _) fun _ _ => .cond (fun _ => .pure fun h => by cases h) fun _ => .pure fun _ => ⟨by omega, h1, h2, h3, h3d⟩) fun _ => .pure fun _ => ⟨by omega, h1, h2, h3, h3d⟩
  | cons g gs ih =>
   intro hg
   have hgw := (qhR (hg g (jd ..))).2
   have hw := qu4 (W := 200) (by omega) (fun v => qBP (by omega) h3 0 v) g.ts
   have hw2 : wtL g.ts * 200 ≤ 200 * 200 := jL _ hgw
   rw [qb1, qui env 0 fuel g (by omega) (by omega), ja]
   exact .bind (qCr fuel hf hbw known hk _ (show wtL (inL (ef env 0) g.ts) ≤ 40000 by omega)) fun _ _ => .cond (fun _ => .pure fun h => by cases h) fun _ => ih fun x hx => hg x (je _ hx)
 exact guard r.f3_Guard fun g hg => hrule.g g (js _ hg)
/-! ### choices -/
theorem qBy {α : Type} {b : Nat} (hb : b ≤ 100) {l : List α} {x : α} {n : Nat} (h : l.length + (n + 1) ≤ 1000000000000) : zN b l [x] = some (l ++ [x]) := by
 refine qme ?_ (by simp; omega)
 have : (l.length + [x].length) * b ≤ 1000000000000 * 100 := Nat.mul_le_mul (by simp; omega) hb
 omega
theorem qAt (k : List (List Int) → Option (List (List Int))) (h : At) (q : List Int) (hq : q.length ≤ 100) : ∀ (l : List (Int × At)) (longer : List (List Int)), longer.length + l.length ≤ 900000000000 → ∃ more, qac k h q l longer = k (longer ++ more) ∧ more.length ≤ l.length ∧ (∀ x ∈ more, x.length = q.length + 1) ∧ ∀ y ∈ l, y.2.n = h.n → y.2.ts.length = h.ts.length → q ++ [y.1] ∈ more
 | [], longer, _ => ⟨[], by rw [qac, jx], jk _, fun x hx => (by cases hx), fun y hy => (by cases hy)⟩
 | y :: l, longer, hl => by
  rw [jg] at hl
  have skip : ¬ (y.2.n = h.n ∧ y.2.ts.length = h.ts.length) → ∃ more, qac k h q l longer = k (longer ++ more) ∧ more.length ≤ (y :: l).length ∧ (∀ x ∈ more, x.length = q.length + 1) ∧ ∀ z ∈ y :: l, z.2.n = h.n → z.2.ts.length = h.ts.length → q ++ [z.1] ∈ more := fun hn => by
   obtain ⟨more, e, h1, h2, h3⟩ := qAt k h q hq l longer (by omega)
   refine ⟨more, e, by rw [jg]; omega, h2, fun z hz hz1 hz2 => ?_⟩
   rcases jh.1 hz with rfl | hz
   · exact absurd ⟨hz1, hz2⟩ hn
   · exact h3 z hz hz1 hz2
  rw [qac]
  by_cases h1 : y.2.n = h.n
  · rw [show (y.2.n.toList == h.n.toList) = true by rw [h1]; simp, cond_true]
    by_cases h2 : y.2.ts.length = h.ts.length
    · rw [uT (show (y.2.ts.length : Int) = h.ts.length by omega), cond_true, qrO (by omega) (by omega), ja, qg5 (by omega) (n := 0) (by omega), ja, qBy (by omega) (n := l.length) (by omega), ja]
      obtain ⟨more, e, h3, h4, h5⟩ := qAt k h q hq l (longer ++ [q ++ [y.1]]) (by rw [jf, jp]; omega)
      refine ⟨(q ++ [y.1]) :: more, by rw [e, ji]; rfl, by rw [jg, jg]; omega, fun x hx => ?_, fun z hz hz1 hz2 => ?_⟩
      · rcases jh.1 hx with rfl | hx
        · rw [jf, jp]
        · exact h4 x hx
      · rcases jh.1 hz with rfl | hz
        · exact jd ..
        · exact je _ (h5 z hz hz1 hz2)
    · rw [uF (show (y.2.ts.length : Int) ≠ h.ts.length by omega), cond_false]
      exact skip fun h => h2 h.2
  · rw [show (y.2.n.toList == h.n.toList) = false by
     simp only [beq_eq_false_iff_ne]
     exact fun e => h1 (qm6 e), cond_false]
    exact skip fun h => h1 h.1
theorem qB2 (k : List (List Int) → Option (List (List Int))) (l : List (Int × At)) (h : At) (m : Nat) (hm : m ≤ 100) : ∀ (lists longer : List (List Int)), (∀ q ∈ lists, q.length = m) → longer.length + lists.length * l.length ≤ 800000000000 → ∃ more, qay k l h lists longer = k (longer ++ more) ∧ more.length ≤ lists.length * l.length ∧ (∀ x ∈ more, x.length = m + 1) ∧ ∀ q ∈ lists, ∀ y ∈ l, y.2.n = h.n → y.2.ts.length = h.ts.length → q ++ [y.1] ∈ more
 | [], longer, _, _ => ⟨[], by rw [qay, jx], by simp, fun x hx => (by cases hx), fun q hq => (by cases hq)⟩
 | q :: lists, longer, hq, hl => by
  rw [jg, ju, jU] at hl
  have hqm := hq q (jd ..)
  rw [qay]
  obtain ⟨m1, e1, a1, b1, c1⟩ := qAt (fun longer_30 => qay k l h lists longer_30) h q (by omega) l longer (by omega)
  obtain ⟨m2, e2, a2, b2, c2⟩ := qB2 k l h m hm lists (longer ++ m1) (fun x hx => hq x (je _ hx)) (by rw [jf]; omega)
  refine ⟨m1 ++ m2, by rw [e1, e2, ji], by rw [jf, jg, ju, jU]; omega, fun x hx => ?_, fun x hx y hy h1 h2 => ?_⟩
  · rcases jn.1 hx with hx | hx
    · rw [b1 x hx, hqm]
    · exact b2 x hx
  · rcases jh.1 hx with rfl | hx
    · exact js _ (c1 y hy h1 h2)
    · exact jy _ (c2 x hx y hy h1 h2)
theorem qBO {Q : List (List Int) → Prop} {k : List (List Int) → Option (List (List Int))} (l : List (Int × At)) (hl : l.length ≤ 500) (hk : ∀ lists, lists.length ≤ 62500000000 → Yl (k lists) Q) : ∀ (hs : List At) (lists : List (List Int)) (m : Nat), (∀ q ∈ lists, q.length = m) → m + hs.length ≤ 100 → lists.length * 500 ^ hs.length ≤ 62500000000 → Yl (qaw k l hs lists) Q
 | [], lists, m, _, _, h => by
  rw [qaw]
  exact hk lists (by simpa using h)
 | a :: hs, lists, m, hq, hm, h => by
  rw [jg] at hm h
  rw [qaw]
  have h1 : lists.length * l.length ≤ lists.length * 500 := vv _ hl
  have hp : 1 ≤ 500 ^ hs.length := vE (by simp)
  have h2 : lists.length * 500 * 500 ^ hs.length ≤ 62500000000 := by
   rw [Nat.pow_succ] at h
   rw [Nat.mul_assoc, Nat.mul_comm 500]
   exact h
  have h3 : lists.length * 500 * 1 ≤ lists.length * 500 * 500 ^ hs.length := vv _ hp
  obtain ⟨more, e, b1, b2, _⟩ := qB2 (fun longer_24 => qaw k l hs longer_24) l a m (by omega) lists [] hq (by simp; omega)
  rw [e, jo]
  refine qBO l hl hk hs more (m + 1) b2 (by omega) ?_
  have h4 : more.length * 500 ^ hs.length ≤ lists.length * 500 * 500 ^ hs.length := jL _ (by omega)
  omega
theorem qAU (fuel : Nat) (hf : 1500000000 < fuel) {p : qn} (hp : yV p) {l : List (Int × At)} (hst : ∀ q ∈ l, wtL q.2.ts ≤ 200) {b : En} (hbw : ∀ q ∈ b, wt q.2 ≤ 200) (known : List Gl) (hk : ∀ g ∈ known, wtL g.ts ≤ 200) (h : List qq) (rule : Int) (r : qD) (hr : zj p.f1_Rules rule = some r) (k : List (List Int) → Option (List (List Int))) : ∀ (lists out : List (List Int)), out.length + lists.length ≤ 900000000000 → ∃ more, qaz k b fuel h known l p rule lists out = k (out ++ more) ∧ more.length ≤ lists.length ∧ (∀ x ∈ more, x ∈ lists ∧ ∃ env, qbP fuel p l b known h rule x = some (env, true) ∧ zan l r x env) ∧ ∀ x ∈ lists, ∀ env, qbP fuel p l b known h rule x = some (env, true) → x ∈ more
 | [], out, _ => ⟨[], by rw [qaz, jx], jk _, fun x hx => (by cases hx), fun x hx => (by cases hx)⟩
 | q :: lists, out, hl => by
  rw [jg] at hl
  obtain ⟨⟨env, ok⟩, e, he⟩ := qBi fuel hf hp hst hbw known hk h rule r hr q
  rw [qaz, e, ja]
  cases ok with
  | false =>
   rw [cond_false]
   obtain ⟨more, e1, h1, h2, h3⟩ := qAU fuel hf hp hst hbw known hk h rule r hr k lists out (by omega)
   refine ⟨more, e1, by rw [jg]; omega, fun x hx => ⟨je _ (h2 x hx).1, (h2 x hx).2⟩, fun x hx env' he' => ?_⟩
   rcases jh.1 hx with rfl | hx
   · rw [e] at he'
     cases he'
   · exact h3 x hx env' he'
  | true =>
   rw [cond_true, qBy (by omega) (n := lists.length) (by omega), ja]
   obtain ⟨more, e1, h1, h2, h3⟩ := qAU fuel hf hp hst hbw known hk h rule r hr k lists (out ++ [q]) (by rw [jf, jp]; omega)
   refine ⟨q :: more, by rw [e1, ji]; rfl, by rw [jg, jg]; omega, fun x hx => ?_, fun x hx env' he' => ?_⟩
   · rcases jh.1 hx with rfl | hx
     · exact ⟨jd .., env, e, he rfl⟩
     · exact ⟨je _ (h2 x hx).1, (h2 x hx).2⟩
   · rcases jh.1 hx with rfl | hx
     · exact jd ..
     · exact je _ (h3 x hx env' he')
theorem qvh (fuel : Nat) (hf : 1500000000 < fuel) {p : qn} (hp : yV p) {l : List (Int × At)} (hl : l.length ≤ 500) (hst : ∀ q ∈ l, wtL q.2.ts ≤ 200) {b : En} (hbw : ∀ q ∈ b, wt q.2 ≤ 200) (known : List Gl) (hk : ∀ g ∈ known, wtL g.ts ≤ 200) (h : List qq) (rule : Int) (r : qD) (hr : zj p.f1_Rules rule = some r) : Yl (qdM fuel p l b known h rule) fun out => out.length ≤ 62500000000 ∧ ∀ x ∈ out, ∃ env, qbP fuel p l b known h rule x = some (env, true) ∧ zan l r x env := by
 have hrule := hp.r r (qeK hr)
 have h4 := hrule.h4
 have h4' := h4
 rw [jf] at h4'
 unfold qdM
 rw [hr, ja, qmN (by omega), ja]
 refine qBO l hl (fun lists hll => ?_) _ [[]] 0 (fun q hq => by rw [jm.1 hq]; rfl) (by omega) ?_
 · obtain ⟨more, e, h1, h2, _⟩ := qAU fuel hf hp hst hbw known hk h rule r hr (fun out_12 => some out_12) lists [] (by simp; omega)
   rw [e, jo]
   exact .pure ⟨by omega, fun x hx => (h2 x hx).2⟩
 · have : 500 ^ (r.f1_Keep ++ r.f2_Remove).length ≤ 500 ^ 4 := Nat.pow_le_pow_right (by omega) h4
   simp only [jp, jU]
   omega
end
end Go.Proofs.YtlfcjfiecoapoaaGreat
