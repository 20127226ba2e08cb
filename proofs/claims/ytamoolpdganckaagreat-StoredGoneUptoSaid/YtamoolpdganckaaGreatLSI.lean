/-
 Texts of the seat, merged.
-/
import Derived.Test.YtamoolpdganckaaGreatLSH
set_option linter.unusedVariables false
set_option linter.unusedSimpArgs false
set_option linter.unnecessarySimpa false
set_option linter.all false
set_option maxHeartbeats 8000000
namespace Go.Proofs.YtamoolpdganckaaGreat
noncomputable section
set_option maxRecDepth 100000
open Go.RowKit
/-! ### terms under values of the variables -/
mutual
def thT (θ : Int → T) : T → T
 | .mk k i s ar => if k = 1 then θ i else .mk k i s (thL θ ar)
def thL (θ : Int → T) : List T → List T
 | [] => []
 | t :: ts => thT θ t :: thL θ ts
end
theorem qp5 (θ : Int → T) {t : T} (h : t.k = 1) : thT θ t = θ t.i := by cases t; simp only [T.k] at h; subst h; simp [thT, T.i]
theorem qsz (θ : Int → T) {t : T} (h : t.k ≠ 1) : thT θ t = .mk t.k t.i t.s (thL θ t.ar) := by cases t; simp only [T.k] at h; simp [thT, h, T.i, T.k, T.s, T.ar]
theorem qj9 (θ : Int → T) : ∀ l : List T, thL θ l = l.map (thT θ)
 | [] => rfl
 | t :: l => by rw [thL, jr, qj9 θ l]
/-! ### a node stands for one term -/
theorem qAI {a b : List T} (hl : a.length = b.length) (h : ∀ (n : Nat) x y, zh a (n : Int) = some x → zh b (n : Int) = some y → x = y) : a = b := by
 refine List.ext_getElem hl fun n h1 h2 => ?_
 exact h n _ _ (by rw [qdl]; exact js h1) (by rw [qdl]; exact js h2)
theorem Rp.one {g : List Nd} {i : Int} {t : T} (h : Rp g i t) : ∀ u, Rp g i u → t = u := by
 induction h with
 | mk i q t h1 h2 h3 h4 h5 h6 ih =>
  intro u hu
  obtain ⟨_, q', _, k1, k2, k3, k4, k5, k6⟩ := hu
  obtain rfl := Option.some.inj (h1.symm.trans k1)
  have e : t.ar = u.ar := qAI oa fun n x y hx hy => by
   have hn := (qhd hx).2.1
   obtain ⟨a, ha, _⟩ := ye (l := q.ff) (i := (n : Int)) oa oa
   exact ih n a x ha hx y (k6 n a y ha hy)
  rw [← quJ t, ← quJ u, ← h2, ← h3, ← h4, e, ← k2, ← k3, ← k4]
theorem Rp.node {g : List Nd} {i : Int} {t : T} (h : Rp g i t) : ∃ q, zh g i = some q ∧ q.fa = t.k ∧ q.fe = t.i ∧ q.fE = t.s ∧ q.ff.length = t.ar.length ∧ ∀ n a u, zh q.ff n = some a → zh t.ar n = some u → Rp g a u := by
 obtain ⟨_, q, _, h1, h2, h3, h4, h5, h6⟩ := h
 exact ⟨q, h1, h2, h3, h4, h5, h6⟩
def Ev (θ : Int → T) (g : List Nd) (i j : Int) : Prop := i = j ∨ ∃ t u, Rp g i t ∧ Rp g j u ∧ thT θ t = thT θ u
theorem Ev.more {θ : Int → T} {g : List Nd} (e : List Nd) {i j : Int} (h : Ev θ g i j) : Ev θ (g ++ e) i j := by
 rcases h with h | ⟨t, u, h1, h2, h3⟩
 exact .inl h
 exact .inr ⟨t, u, h1.more e, h2.more e, h3⟩
theorem Ev.val {θ : Int → T} {g : List Nd} {i j : Int} (h : Ev θ g i j) {t u : T} (ht : Rp g i t) (hu : Rp g j u) : thT θ t = thT θ u := by
 rcases h with rfl | ⟨t', u', h1, h2, h3⟩
 rw [ht.one u hu]
 rw [ht.one t' h1, hu.one u' h2, h3]
theorem Ev.resp (θ : Int → T) (g : List Nd) : Resp g (Ev θ g) := by
 refine ⟨fun i => .inl rfl, fun i j h => ?_, fun i j k h1 h2 => ?_, fun i j p q h hp hq hpk hqk => ?_⟩
 rcases h with h | ⟨t, u, h1, h2, h3⟩
 exact .inl h.symm
 exact .inr ⟨u, t, h2, h1, h3.symm⟩
 rcases h1 with rfl | ⟨t, u, h3, h4, h5⟩
 exact h2
 rcases h2 with rfl | ⟨t', u', h6, h7, h8⟩
 exact .inr ⟨t, u, h3, h4, h5⟩
 refine .inr ⟨t, u', h3, h7, ?_⟩
 rw [h5, h4.one t' h6, h8]
 rcases h with rfl | ⟨t, u, h1, h2, h3⟩
 obtain rfl := Option.some.inj (hp.symm.trans hq)
 exact ⟨rfl, rfl, rfl, rfl, fun n a b ha hb => .inl (Option.some.inj (ha.symm.trans hb))⟩
 obtain ⟨p', e1, k1, k2, k3, k4, k5⟩ := h1.node
 obtain ⟨q', e2, l1, l2, l3, l4, l5⟩ := h2.node
 obtain rfl := Option.some.inj (hp.symm.trans e1)
 obtain rfl := Option.some.inj (hq.symm.trans e2)
 rw [qsz θ (show t.k ≠ 1 by rw [← k1]; exact hpk), qsz θ (show u.k ≠ 1 by rw [← l1]; exact hqk)] at h3
 injection h3 with m1 m2 m3 m4
 rw [qj9, qj9] at m4
 have hlen : t.ar.length = u.ar.length := by simpa using congrArg List.length m4
 refine ⟨by rw [k1, l1, m1], by rw [k2, l2, m2], by rw [k3, l3, m3], by omega, fun n a b ha hb => ?_⟩
 obtain ⟨n0, n1, _⟩ := qhd ha
 obtain ⟨x, hx, _⟩ := ye (l := t.ar) (i := n) n0 oa
 obtain ⟨y, hy, _⟩ := ye (l := u.ar) (i := n) n0 oa
 refine .inr ⟨x, y, k5 n a x ha hx, l5 n b y hb hy, ?_⟩
 have e1 := qwD (thT θ) hx
 rw [m4, qwD (thT θ) hy] at e1
 exact (Option.some.inj e1).symm
theorem qwm {θ : Int → T} {M : Nat} {g g1 : List Nd} {c c1 : List Int} {n : Nat} (hs : StG g c) (hF : zbh c (Ev θ g)) (h : y6 M g c n g1 c1) : zbh c1 (Ev θ g1) := by
 obtain ⟨_, _, e, rfl, _, rfl⟩ := h
 have hl := hs.len
 have spl : ∀ i v, zh (c ++ (List.range' g.length e.length).map fun (x : Nat) => (x : Int)) i = some v → (zh c i = some v ∧ v < g.length) ∨ ((g.length : Int) ≤ i ∧ v = i) := fun i v h => by
  obtain ⟨h0, h1⟩ := qb3 h
  by_cases hi : i.toNat < c.length
  rw [jT hi] at h1
  refine .inl ⟨?_, (hs.cls v (List.mem_of_getElem? h1)).2⟩
  unfold zh
  rw [if_pos h0, h1]
  rw [vo oa] at h1
  refine .inr ⟨by omega, ?_⟩
  obtain ⟨hb, h1⟩ := ju.1 h1
  rw [List.getElem_map, List.getElem_range'] at h1
  omega
 intro i j v hi hj
 rcases spl i v hi with ⟨h1, h2⟩ | ⟨h1, h2⟩
 rcases spl j v hj with ⟨h3, h4⟩ | ⟨h3, h4⟩
 exact (hF i j v h1 h3).more e
 omega
 rcases spl j v hj with ⟨h3, h4⟩ | ⟨h3, h4⟩
 omega
 exact .inl (h2.symm.trans h4)
/-! ### the term of a class has the value of its nodes -/
theorem qlF (c : List Int) (cl : Int) : ∀ (l : List Nd) (i : Nat) (r : Int), qG (some (-1)) c cl l i = some r → r < 0 → ∀ (n : Nat) q, l[n]? = some q → zh c ((i + n : Nat) : Int) = some cl → q.fa = 1
 | [], i, r, h, _, n, q, hq, _ => by simp at hq
 | p :: l, i, r, h, hr, n, q, hq, hc => by
  rw [qG] at h
  cases hv : zh c (i : Int) with
  | none =>
   rw [hv] at h
   cases h
  | some v =>
   rw [hv, ja] at h
   by_cases h1 : v = cl
   rw [uT h1, cond_true] at h
   by_cases h2 : p.fa = 1
   rw [show (p.fa != 1) = false by simp [h2], cond_false] at h
   cases n with
   | zero =>
    rw [vK] at hq
    cases hq
    exact h2
   | succ n => exact qlF c cl l (i + 1) r h hr n q (by simpa using hq) (by rw [show i + 1 + n = i + (n + 1) by omega]; exact hc)
   rw [show (p.fa != 1) = true by simp [h2], cond_true] at h
   cases h
   omega
   rw [uF h1, cond_false] at h
   cases n with
   | zero =>
    rw [j9, hv] at hc
    exact absurd (Option.some.inj hc) h1
   | succ n => exact qlF c cl l (i + 1) r h hr n q (by simpa using hq) (by rw [show i + 1 + n = i + (n + 1) by omega]; exact hc)
theorem qmu {g : List Nd} {c : List Int} {cl r : Int} (h : qy cl g c = some r) (hr : r < 0) {i : Int} {q : Nd} (hq : zh g i = some q) (hc : zh c i = some cl) : q.fa = 1 := by
 obtain ⟨h0, h1⟩ := qb3 hq
 exact qlF c cl g 0 r h hr i.toNat q h1 (by rw [jx, Int.toNat_of_nonneg h0]; exact hc)
theorem qtt (c : List Int) (cl : Int) : ∀ (l : List Nd) (v : Int) (i : Nat) (x : Int), qr (fun v => some v) c cl l v i = some x → (x = v ∧ (v < 0 → ∀ (n : Nat) q, l[n]? = some q → zh c ((i + n : Nat) : Int) = some cl → q.fa = 1 → False)) ∨ ∃ (n : Nat) (q : Nd), l[n]? = some q ∧ zh c ((i + n : Nat) : Int) = some cl ∧ q.fa = 1 ∧ q.fe = x
 | [], v, i, x, h => by
  rw [qr] at h
  exact .inl ⟨(Option.some.inj h).symm, fun _ n q hq => by simp at hq⟩
 | p :: l, v, i, x, h => by
  rw [qr] at h
  cases hv : zh c (i : Int) with
  | none =>
   rw [hv] at h
   cases h
  | some w =>
   rw [hv, ja] at h
   have go : ∀ v', qr (fun v => some v) c cl l v' (i + 1) = some x → (x = v' ∧ (v' < 0 → ∀ (n : Nat) q, l[n]? = some q → zh c ((i + 1 + n : Nat) : Int) = some cl → q.fa = 1 → False)) ∨ ∃ (n : Nat) (q : Nd), (p :: l)[n]? = some q ∧ zh c ((i + n : Nat) : Int) = some cl ∧ q.fa = 1 ∧ q.fe = x := fun v' h' => by
    rcases qtt c cl l v' (i + 1) x h' with h | ⟨n, q, h1, h2, h3⟩
    exact .inl h
    exact .inr ⟨n + 1, q, by simpa using h1, by rw [show i + (n + 1) = i + 1 + n by omega]; exact h2, h3⟩
   have here : w = cl → p.fa = 1 → p.fe = x → ∃ (n : Nat) (q : Nd), (p :: l)[n]? = some q ∧ zh c ((i + n : Nat) : Int) = some cl ∧ q.fa = 1 ∧ q.fe = x := fun h1 h2 h3 => ⟨0, p, rfl, by rw [j9, hv, h1], h2, h3⟩
   have skip : ¬ (w = cl ∧ p.fa = 1) → qr (fun v => some v) c cl l v (i + 1) = some x → (x = v ∧ (v < 0 → ∀ (n : Nat) q, (p :: l)[n]? = some q → zh c ((i + n : Nat) : Int) = some cl → q.fa = 1 → False)) ∨ ∃ (n : Nat) (q : Nd), (p :: l)[n]? = some q ∧ zh c ((i + n : Nat) : Int) = some cl ∧ q.fa = 1 ∧ q.fe = x := fun hn h' => by
    rcases go v h' with ⟨h1, h2⟩ | h
    refine .inl ⟨h1, fun hv0 n q hq hc hk => ?_⟩
    cases n with
    | zero =>
     rw [vK] at hq
     cases hq
     rw [j9, hv] at hc
     exact hn ⟨Option.some.inj hc, hk⟩
    | succ n => exact h2 hv0 n q (by simpa using hq) (by rw [show i + 1 + n = i + (n + 1) by omega]; exact hc) hk
    exact .inr h
   by_cases h1 : w = cl
   rw [uT h1, cond_true] at h
   by_cases h2 : p.fa = 1
   rw [uT h2, cond_true] at h
   have new : qr (fun v => some v) c cl l p.fe (i + 1) = some x → ∃ (n : Nat) (q : Nd), (p :: l)[n]? = some q ∧ zh c ((i + n : Nat) : Int) = some cl ∧ q.fa = 1 ∧ q.fe = x := fun h' => by
    rcases go _ h' with ⟨h3, _⟩ | h
    exact here h1 h2 h3.symm
    exact h
   by_cases h3 : v < 0
   rw [decide_eq_true h3, cond_true] at h
   exact .inr (new h)
   rw [decide_eq_false h3, cond_false] at h
   by_cases h4 : p.fe < v
   rw [decide_eq_true h4, cond_true] at h
   exact .inr (new h)
   rw [decide_eq_false h4, cond_false] at h
   rcases go _ h with ⟨h5, _⟩ | h
   exact .inl ⟨h5, fun h6 => absurd h6 h3⟩
   exact .inr h
   rw [uF h2, cond_false] at h
   exact skip (fun h => h2 h.2) h
   rw [uF h1, cond_false] at h
   exact skip (fun h => h1 h.1) h
theorem qtw {g : List Nd} {c : List Int} {cl x : Int} (h : qaO cl g c = some x) {i : Int} {q : Nd} (hq : zh g i = some q) (hc : zh c i = some cl) (hk : q.fa = 1) : ∃ j p, zh g j = some p ∧ zh c j = some cl ∧ p.fa = 1 ∧ p.fe = x := by
 obtain ⟨h0, h1⟩ := qb3 hq
 rcases qtt c cl g (-1) 0 x h with ⟨_, h2⟩ | ⟨n, p, h3, h4, h5⟩
 exact (h2 oa i.toNat q h1 (by rw [jx, Int.toNat_of_nonneg h0]; exact hc) hk).elim
 exact ⟨(n : Int), p, by rw [qdl]; exact h3, by rw [jx] at h4; exact h4, h5⟩
theorem qfB {α β : Type} {x : Option α} {f : α → Option β} {b : β} (h : x.bind f = some b) : ∃ a, x = some a ∧ f a = some b := jX.1 h
theorem qvD {θ : Int → T} {rec : Int → List Nd → List Int → Option T} {g : List Nd} {c : List Int} {q : Nd} {u : T} (hlen : q.ff.length = u.ar.length) (hkl : q.ff.length ≤ 1000000000) (hr : ∀ (n : Nat) a w v t, zh q.ff n = some a → zh u.ar n = some w → zh c a = some v → rec v g c = some t → thT θ t = thT θ w) (a b : Int) (s : ByteArray) :
 ∀ (n i : Nat) (l : List T) (t : T), i ≤ q.ff.length → qp (fun t_14 t_15 t_16 t_17 => some (T.mk t_14 t_15 t_16 t_17)) rec g c q n (i : Int) a b s l = some t → thL θ l = thL θ (u.ar.take i) → ∃ l', t = .mk a b s l' ∧ thL θ l' = thL θ u.ar
 | 0, i, l, t, _, h, _ => by
  rw [qp] at h
  cases h
 | n + 1, i, l, t, hi, h, hl => by
  rw [qp] at h
  by_cases h1 : (i : Int) < (q.ff.length : Int)
  rw [decide_eq_true h1, cond_true] at h
  obtain ⟨x, hx, h⟩ := qfB h
  obtain ⟨v, hv, h⟩ := qfB h
  obtain ⟨y, hy, h⟩ := qfB h
  obtain ⟨l2, hl2, h⟩ := qfB h
  obtain ⟨w, hw, _⟩ := ye (l := u.ar) (i := (i : Int)) oa oa
  have e := hr i x w v y hx hw hv hy
  have hl2' : l2 = l ++ [y] := by
   unfold zz at hl2
   split at hl2
   exact (Option.some.inj hl2).symm
   cases hl2
  subst hl2'
  have hi' : wr ((i : Int) + 1) = ((i + 1 : Nat) : Int) := by
   rw [qgI oa]
   omega
  rw [hi'] at h
  refine qvD hlen hkl hr a b s n (i + 1) (l ++ [y]) t oa h ?_
  rw [qdl] at hw
  rw [qg4 hw, qj9, qj9, jM, jM, List.map_singleton, List.map_singleton, e, ← qj9, ← qj9, hl]
  rw [decide_eq_false h1, cond_false] at h
  refine ⟨l, (Option.some.inj h).symm, ?_⟩
  rw [hl, j7 oa]
theorem qvL {θ : Int → T} {M : Nat} (hM : M ≤ 1000000000) {g : List Nd} {c : List Int} (hs : StG g c) (hk : Kd M g) (hA : zaz g) (hF : zbh c (Ev θ g)) : ∀ (fuel : Nat) (v : Int) (t : T), qq fuel v g c = some t → ∀ i u, zh c i = some v → Rp g i u → thT θ t = thT θ u
 | 0, v, t, h, _, _, _, _ => by
  rw [qq] at h
  cases h
 | fuel + 1, v, t, h, i, u, hi, hu => by
  rw [qq] at h
  dsimp only at h
  obtain ⟨r, hr, h⟩ := qfB h
  obtain ⟨q, hq, hqk, hqi, _⟩ := hu.node
  obtain ⟨r', hr', hrq⟩ := qhi hs v
  obtain rfl := Option.some.inj (hr.symm.trans hr')
  by_cases h0 : r < 0
  rw [decide_eq_true h0, cond_true] at h
  obtain ⟨x, hx, h⟩ := qfB h
  have hk1 := qmu hr h0 hq hi
  obtain ⟨j, p, hp, hj, hpk, hpx⟩ := qtw hx hq hi hk1
  obtain ⟨w, hw⟩ := hA j p hp
  obtain ⟨p', hp', hwk, hwi, _⟩ := hw.node
  obtain rfl := Option.some.inj (hp.symm.trans hp')
  have e := (hF i j v hi hj).val hu hw
  obtain rfl := Option.some.inj h
  rw [e, qp5 θ (show w.k = 1 by rw [← hwk, hpk]), qp5 θ (by rfl), ← hwi, hpx]
  rfl
  rw [decide_eq_false h0, cond_false] at h
  rcases hrq with rfl | ⟨p, hp, hpc, hpk⟩
  omega
  obtain ⟨p', hp', h⟩ := qfB h
  obtain rfl := Option.some.inj (hp.symm.trans hp')
  obtain ⟨w, hw⟩ := hA r p hp
  obtain ⟨p', hp', hwk, hwi, hws, hwl, hwr⟩ := hw.node
  obtain rfl := Option.some.inj (hp.symm.trans hp')
  have hkl := hk p (qdB hp)
  obtain ⟨l', rfl, hl'⟩ := qvD (θ := θ) (u := w) hwl oa (fun n a w' v' t' ha hw' hv' ht' => qvL hM hs hk hA hF fuel v' t' ht' a w' hv' (hwr n a w' ha hw')) p.fa p.fe p.fE fuel 0 [] t (jf _) h (by rw [vC])
  rw [(hF i r v hi hpc).val hu hw, qsz θ (show (T.mk p.fa p.fe p.fE l').k ≠ 1 from hpk), qsz θ (show w.k ≠ 1 by rw [← hwk]; exact hpk)]
  show T.mk p.fa p.fe p.fE (thL θ l') = _
  rw [hl', hwk, hwi, hws]
/-! ### the solved form -/
def Ar (P : Int × T → Prop) (r : List (Int × T) × Int) : Prop := (∀ p ∈ r.1, P p) ∧ r.1.length ≤ 1000000000
theorem Ar.nil {P : Int × T → Prop} (e : Int) : Ar P ([], e) := ⟨fun p hp => (by cases hp), by simp⟩
theorem qpc {M : Nat} {g : List Nd} (hg : g.length ≤ 1000000000) {c : List Int} (h : StG g c) (fuel : Nat) (hf : g.length + M + 2 ≤ fuel) (m : List Ms × Bool) (hm : ∀ v ∈ c, ((∃ y, zh m.1 v = some y) ∧ yy M g c g.length v) ∧ ∀ y, zh m.1 v = some y → y.fh ≤ 200 → zaK g c v y.fh) (P : Int × T → Prop) (hP : ∀ i q v t, zh g i = some q → q.fa = 1 → zh c i = some v → qq fuel v g c = some t → wt t ≤ 200 → P (q.fe, t)) :
 ∀ (n i : Nat) (out : List (Int × T)), g.length < n + i → i ≤ g.length → out.length ≤ i → (∀ p ∈ out, P p) → Yl (qE (fun out_24 => some (out_24, 0)) fuel m n out (i : Int) g c) (Ar P)
 | 0, i, out, h1, h2, _, _ => by omega
 | n + 1, i, out, h1, h2, h3, h4 => by
  have hl := h.len
  rw [qE]
  by_cases hi : i < g.length
  · obtain ⟨v, hv, hvm⟩ := ye (l := c) (i := (i : Int)) oa oa
    obtain ⟨q, hq, hqm⟩ := ye (l := g) (i := (i : Int)) oa oa
    obtain ⟨⟨⟨y, hy⟩, ht⟩, hwg⟩ := hm v hvm
    obtain ⟨t, ht⟩ := ht fuel hf
    obtain ⟨r, hr, _⟩ := qhi h v
    obtain ⟨s, hs⟩ := qng h v
    have hi' : wr ((i : Int) + 1) = ((i + 1 : Nat) : Int) := by
     rw [qgI oa]
     omega
    have next := fun out ho hp => qpc hg h fuel hf m hm P hP n (i + 1) out oa oa ho hp
    have bad : Yl (some (([] : List (Int × T)), (6 : Int))) (Ar P) := .pure (.nil _)
    have new : q.fa = 1 → y.fh ≤ 200 → ∀ j : Nat, j ≤ out.length → Yl (qE (fun out_24 => some (out_24, 0)) fuel m n (out.take j ++ [(q.fe, t)] ++ out.drop j) ((i + 1 : Nat) : Int) g c) (Ar P) := fun hk hy2 j hj => next _ oe fun p hp => by
     simp only [jj, ji] at hp
     rcases hp with (hp | hp) | hp
     · exact h4 p (j4 hp)
     · rw [hp]
       exact hP i q v t hq hk hv ht (by have := hwg y hy hy2 fuel t ht; omega)
     · exact h4 p (jW hp)
    rw [decide_eq_true oa, cond_true, hv, ja, hq, ja, hi']
    refine .cond (fun _ => next out oa h4) fun hk => ?_
    have hk := bF hk
    rw [hr, ja]
    refine .cond (fun _ => ?_) fun _ => ?_
    · rw [hs, ja]
      refine .cond (fun _ => next out oa h4) fun _ => ?_
      rw [hy, ja]
      refine .cond (fun _ => bad) fun hy2 => .cond (fun _ => bad) fun _ => ?_
      rw [ht, ja]
      obtain ⟨j, _, hj, e⟩ := qsR _ q out 0
      rw [e, qkB _ out _ j oa oa]
      exact new hk (by have := dF hy2; omega) j oa
    · rw [hy, ja]
      refine .cond (fun _ => bad) fun hy2 => .cond (fun _ => bad) fun _ => ?_
      rw [ht, ja]
      obtain ⟨j, _, hj, e⟩ := qsE _ q out 0
      rw [e, qkB _ out _ j oa oa]
      exact new hk (by have := dF hy2; omega) j oa
  rw [decide_eq_false oa, cond_false]
  exact .pure ⟨h4, by show out.length ≤ _; omega⟩
theorem qs2 (θ : Int → T) {Q : List (Int × T) × Int → Prop} (hno : Q ([], 13)) (b : List T) (fuel : Nat) (hf : 1500000000 < fuel) {M : Nat} (hM : M ≤ 300000000) (k : List Nd → List Int → BsR) (hk : ∀ g c, StG g c → Kd M g → zaz g → zbh c (Ev θ g) → g.length ≤ 600000000 → Yl (k g c) Q) (hb : ∀ t ∈ b, yF t ∧ wt t ≤ M) :
 ∀ (l : List T) (i : Nat) (g : List Nd) (c : List Int), i + l.length = b.length → thL θ l = thL θ (b.drop i) → (∀ t ∈ l, yF t ∧ wt t ≤ M) → StG g c → Kd M g → zbA g → zaz g → zbh c (Ev θ g) → g.length + wtL l + wtL (b.drop i) ≤ 600000000 → Yl (qF k b fuel l i g c) Q
 | [], i, g, c, _, _, _, hs, hkd, _, hA, hF, hw => by
  rw [qF]
  exact hk g c hs hkd hA hF oa
 | t :: l, i, g, c, hi, hth, ht, hs, hkd, hv, hA, hF, hw => by
  rw [jg] at hi
  obtain ⟨u, hu, hum⟩ := ye (l := b) (i := (i : Int)) oa oa
  have hd : b.drop i = u :: b.drop (i + 1) := by
   rw [qdl] at hu
   rw [j2 oa]
   rw [js oa] at hu
   rw [Option.some.inj hu]
  have hdrop : wtL (b.drop i) = wt u + wtL (b.drop (i + 1)) := by rw [hd, wtL]
  rw [hd, thL, thL] at hth
  obtain ⟨hth1, hth2⟩ := List.cons.inj hth
  rw [wtL, hdrop] at hw
  obtain ⟨x, g1, c1, e1, E1, v1, r1, q1⟩ := qgQ fuel t g c (ht t (jc ..)).1 oa (ht t (jc ..)).2 hs hkd hv oa
  obtain ⟨s1, k1, m1, x0, x1⟩ := E1
  have F1 := qwm (M := M) hs hF ⟨s1, k1, m1⟩
  have hl1 := y6.le (M := M) (c := c) (c1 := c1) ⟨s1, k1, m1⟩
  obtain ⟨y, g2, c2, e2, E2, v2, r2, q2⟩ := qgQ fuel u g1 c1 (hb u hum).1 (by have := (hb u hum).2; omega) (hb u hum).2 s1 k1 v1 oa
  obtain ⟨s2, k2, m2, y0, y1⟩ := E2
  have F2 := qwm (M := M) s1 F1 ⟨s2, k2, m2⟩
  have hl2 := y6.le (M := M) (c := c1) (c1 := c2) ⟨s2, k2, m2⟩
  have hc := qse c2
  have hcl := s2.len
  obtain ⟨e, rfl, _⟩ := m2
  obtain ⟨ok, c3, e3, s3, _, F3⟩ := qm5 (g := g1 ++ e) oa fuel x y c2 s2 oa oa x0 oa y0 y1
  have A2 := q2 (q1 hA)
  obtain ⟨hok, F4⟩ := F3 _ (Ev.resp θ _) F2 (.inr ⟨t, u, r1.more e, r2, hth1⟩)
  subst hok
  rw [qF, e1, ja, hu, ja]
  dsimp only
  rw [e2, ja]
  dsimp only
  rw [e3, ja, jy, cond_false]
  exact qs2 θ hno b fuel hf hM k hk hb l (i + 1) (g1 ++ e) c3 oa hth2 (fun t h => ht t (je _ h)) s3 k2 v2 A2 F4 oa
theorem qzJ (θ : Int → T) (fuel : Nat) (hf : 1500000000 < fuel) (a b : List T) (hl : a.length = b.length) (hth : thL θ a = thL θ b) (ha : ∀ t ∈ a, yF t) (hb : ∀ t ∈ b, yF t) (wa : wtL a ≤ 300000000) (wb : wtL b ≤ 300000000) : Yl (qbV fuel a b) (Ar fun p => θ p.1 = thT θ p.2 ∧ wt p.2 ≤ 200) := by
 unfold qbV
 refine qs2 θ (.nil _) (M := 300000000) b fuel hf (jn _) _ (fun g c hs hk hA hF hg => ?_) (fun t ht => ⟨hb t ht, by have := qft ht; omega⟩) a 0 [] [] oa hth (fun t ht => ⟨ha t ht, by have := qft ht; omega⟩) ⟨rfl, fun v hv => by simp at hv, fun v hv => by simp at hv, fun q hq => by simp at hq⟩ (fun q hq => by simp at hq) (fun q hq => by simp at hq) zaz.nil (fun i j v hi => absurd (qdB hi) og) oe
 obtain ⟨m, ok, e, hok⟩ := qpg (M := 300000000) oa oa hs hk fuel oa
 rw [e, ja]
 refine .cond (fun _ => .pure (.nil _)) fun h => ?_
 refine qpc (M := 300000000) oa hs fuel oa (m, ok) (hok (nF h)) (fun p => θ p.1 = thT θ p.2 ∧ wt p.2 ≤ 200) (fun i q v t hq hqk hv ht hw => ?_) fuel 0 [] oa oa og (fun p hp => by cases hp)
 obtain ⟨u, hu⟩ := hA i q hq
 obtain ⟨q', hq', huk, hui, _⟩ := hu.node
 obtain rfl := Option.some.inj (hq.symm.trans hq')
 exact ⟨by rw [qvL oa hs hk hA hF fuel v t ht i u hv hu, qp5 θ (show u.k = 1 by rw [← huk, hqk]), ← hui], hw⟩
theorem qDs (θ : Int → T) (fuel : Nat) (hf : 1500000000 < fuel) (a b : List T) (hth : thL θ a = thL θ b) (wa : wtL a ≤ 300000000) (wb : wtL b ≤ 300000000) : Yl (qaz fuel a b) (Ar fun p => θ p.1 = thT θ p.2 ∧ wt p.2 ≤ 200) := by
 unfold qaz
 refine qnK _ (fun x => Yl x (Ar fun p => θ p.1 = thT θ p.2 ∧ wt p.2 ≤ 200)) (.pure (.nil _)) a wa fun ha => qnJ _ (fun x => Yl x (Ar fun p => θ p.1 = thT θ p.2 ∧ wt p.2 ≤ 200)) (.pure (.nil _)) b wb fun hb => ?_
 have hl : a.length = b.length := by simpa [qj9] using congrArg List.length hth
 rw [show ((a.length : Int) != (b.length : Int)) = false by simp [hl], cond_false]
 exact .bind (qzJ θ fuel hf a b hl hth (fun t ht => qfW (ha t ht)) (fun t ht => qfW (hb t ht)) wa wb) fun r hr => .pure hr
/-! ### two numbers, or a number and a zbu, are not made equal -/
theorem qw0 {g : List Nd} {c : List Int} (hs : StG g c) (hg : g.length ≤ 1000000000) {i j : Int} {p q : Nd} (hi : zh c i = some i) (hj : zh c j = some j) (hij : i ≠ j) (hp : zh g i = some p) (hq : zh g j = some q) (hpk : p.fa ≠ 1) (hqk : q.fa ≠ 1) (h1 : ∀ x, zh c x = some i → x = i) (h2 : ∀ x, zh c x = some j → x = j) (hne : p.fa ≠ q.fa ∨ p.fe ≠ q.fe) (fuel : Nat) (hf : g.length + 1 < fuel) : ∃ c', qab fuel i j g c = some (false, g, c') := by
 obtain ⟨fuel, rfl⟩ : ∃ n, fuel = n + 1 := ⟨fuel - 1, by omega⟩
 have hl := hs.len
 rw [qab]
 dsimp only
 rw [hi, ja, hj, ja, uF hij, cond_false]
 obtain ⟨m, em, hm⟩ := qhi hs i
 obtain ⟨n, en, hn⟩ := qhi hs j
 have m0 : ¬ m < 0 := fun h => hpk (qmu em h hp hi)
 have n0 : ¬ n < 0 := fun h => hqk (qmu en h hq hj)
 rcases hm with rfl | ⟨p', hp', cp, _⟩
 omega
 rcases hn with rfl | ⟨q', hq', cq, _⟩
 omega
 obtain rfl := h1 m cp
 obtain rfl := h2 n cq
 obtain rfl := Option.some.inj (hp.symm.trans hp')
 obtain rfl := Option.some.inj (hq.symm.trans hq')
 have hj := qsY (fun g_13 g_14 => (bif (decide (m < (0 : Int))) then some (true, g_13, g_14) else (bif (decide (n < (0 : Int))) then some (true, g_13, g_14) else ((zh g_13 m).bind fun q_18 => ((zh g_13 n).bind fun q_19 => (bif (q_18.fa != q_19.fa) then some (false, g_13, g_14) else (bif (q_18.fe != q_19.fe) then some (false, g_13, g_14) else (bif (!(q_18.fE.toList == q_19.fE.toList)) then some (false, g_13, g_14) else (bif ((q_18.ff.length : Int) != (q_19.ff.length : Int)) then some (false, g_13, g_14) else (qK (fun g_31 g_32 => some (true, g_31, g_32)) (qab fuel) q_19 q_18.ff 0 g_13 g_14)))))))))) m n g c [] fuel oa oe
 rw [jp, jp] at hj
 rw [em, ja, en, ja]
 refine ⟨c.map (mrg n m), hj.trans ?_⟩
 rw [decide_eq_false m0, cond_false, decide_eq_false n0, cond_false, hp, ja, hq, ja]
 by_cases e : p.fa = q.fa
 rw [show (p.fa != q.fa) = false by simpa using e, cond_false, show (p.fe != q.fe) = true by simpa using hne.resolve_left fun h => h e, cond_true]
 rw [show (p.fa != q.fa) = true by simpa using e, cond_true]
theorem qy5 (fuel : Nat) (hf : 1500000000 < fuel) (s u : T) (a b : List T) (hsk : s.k ≠ 1) (huk : u.k ≠ 1) (hne : s.k ≠ u.k ∨ s.i ≠ u.i) (wa : wtL (s :: a) ≤ 300000000) (wb : wtL (u :: b) ≤ 300000000) : Yl (qaz fuel (s :: a) (u :: b)) fun r => r.2 ≠ 0 := by
 unfold qaz
 refine qnK _ (fun x => Yl x fun r => r.2 ≠ 0) (.pure og) _ wa fun ha => qnJ _ (fun x => Yl x fun r => r.2 ≠ 0) (.pure og) _ wb fun hb => ?_
 refine .cond (fun _ => .pure og) fun _ => ?_
 rw [wtL] at wa wb
 unfold qbV
 obtain ⟨x, g1, c1, e1, E1, v1, r1, _⟩ := qgQ (M := 300000000) fuel s [] [] (qfW (ha s (jc ..))) oa oa ⟨rfl, fun v hv => by simp at hv, fun v hv => by simp at hv, fun q hq => by simp at hq⟩ (fun q hq => by simp at hq) (fun q hq => by simp at hq) oe
 obtain ⟨s1, k1, m1, x0, x1⟩ := E1
 have hl1 := y6.le (M := 300000000) (g := []) (c := []) (c1 := c1) ⟨s1, k1, m1⟩
 obtain ⟨y, g2, c2, e2, E2, v2, r2, _⟩ := qgQ (M := 300000000) fuel u g1 c1 (qfW (hb u (jc ..))) oa oa s1 k1 v1 (by simp at hl1; omega)
 obtain ⟨s2, k2, m2, y0, y1⟩ := E2
 have hl2 := y6.le (M := 300000000) (c := c1) (c1 := c2) ⟨s2, k2, m2⟩
 obtain ⟨d, hd, _, rfl⟩ := m1
 obtain rfl : d = g1 := by simpa using hd.symm
 obtain ⟨e, rfl, _, rfl⟩ := m2
 simp only [jp, jP, jx] at *
 have idc : ∀ z v, zh (((List.range' 0 d.length).map fun (x : Nat) => (x : Int)) ++ (List.range' d.length e.length).map fun (x : Nat) => (x : Int)) z = some v → v = z := fun z v h => by
  obtain ⟨h0, h1⟩ := qb3 h
  rw [← jM] at h1
  have ha : List.range' 0 d.length ++ List.range' d.length e.length = List.range' 0 (d.length + e.length) := by
   have := @List.range'_append 0 d.length e.length 1
   simpa using this
  rw [ha] at h1
  obtain ⟨hb, h1⟩ := ju.1 h1
  rw [List.getElem_map, List.getElem_range'] at h1
  omega
 have idg : ∀ z : Int, 0 ≤ z → z < (d ++ e).length → zh (((List.range' 0 d.length).map fun (x : Nat) => (x : Int)) ++ (List.range' d.length e.length).map fun (x : Nat) => (x : Int)) z = some z := fun z h0 h1 => by
  obtain ⟨v, hv, _⟩ := ye (l := ((List.range' 0 d.length).map fun (x : Nat) => (x : Int)) ++ (List.range' d.length e.length).map fun (x : Nat) => (x : Int)) (i := z) h0 (by rw [jb] at h1; simp; omega)
  rw [hv, idc z v hv]
 obtain ⟨p, hp, hpk, hpi, _⟩ := (r1.more e).node
 obtain ⟨q, hq, hqk, hqi, _⟩ := r2.node
 have hxy : x ≠ y := fun h => by
  subst h
  obtain rfl := Option.some.inj (hp.symm.trans hq)
  rcases hne with hne | hne
  exact hne (by rw [← hpk, hqk])
  exact hne (by rw [← hpi, hqi])
 obtain ⟨c3, e3⟩ := qw0 s2 oa (idg x x0 (by rw [jb]; omega)) (idg y y0 y1) hxy hp hq (by rw [hpk]; exact hsk) (by rw [hqk]; exact huk) (fun z hz => (idc z x hz).symm) (fun z hz => (idc z y hz).symm) (by rw [hpk, hqk, hpi, hqi]; exact hne) fuel oa
 have hu : zh (u :: b) ((0 : Nat) : Int) = some u := rfl
 rw [qF, e1, ja, hu, ja]
 dsimp only
 rw [e2, ja]
 dsimp only
 rw [e3, ja]
 exact .pure og
/-! ### layer 15 -/
theorem qun (s : ByteArray) (n : Int) : ∀ l : List qaS, Yl (qR (some false) n s l) fun _ => True
 | [] => by rw [qR]; exact .pure trivial
 | d :: l => by
  rw [qR]
  exact .cond (fun _ => .cond (fun _ => .pure trivial) fun _ => qun s n l) fun _ => qun s n l
theorem qsZ (l : List qaS) (s : ByteArray) (n : Int) : Yl (qbL l s n) fun _ => True := qun s n l
theorem qnE {k : Int → Option Int} (hk : ∀ e, Yl (k e) fun _ => True) (s : ByteArray) : ∀ (l : List qaS) (e : Int), Yl (qZ k s l e) fun _ => True
 | [], e => by rw [qZ]; exact hk e
 | d :: l, e => by
  rw [qZ]
  exact .cond (fun _ => qnE hk s l _) fun _ => qnE hk s l _
theorem qra (l : List qaS) (s : ByteArray) (n : Int) : Yl (qdi l s n) fun _ => True :=
 qnE (fun e => .bind (qsZ l s n) fun _ _ => .cond (fun _ => .pure trivial) fun _ => .pure trivial) s l 7
theorem qs0 (ds : List qaS) : ∀ l : List Gl, Yl (qak (some 0) ds l) fun _ => True
 | [] => by rw [qak]; exact .pure trivial
 | g :: l => by
  rw [qak]
  exact .cond (fun _ => qs0 ds l) fun _ => .bind (qra ds _ _) fun _ _ => .cond (fun _ => .pure trivial) fun _ => qs0 ds l
theorem qBs (n : Int) : Yl (qcq n) fun _ => True := by
 unfold qcq
 exact .cond (fun _ => .pure trivial) fun _ => .pure trivial
theorem qyt (n : Int) : ∀ l : List Int, Yl (qcf (some false) n l) fun _ => True
 | [] => by rw [qcf]; exact .pure trivial
 | x :: l => by
  rw [qcf]
  exact .cond (fun _ => .pure trivial) fun _ => qyt n l
theorem qnY {α : Type} {b : Nat} (hb : b ≤ 100) {l : List α} (h : l.length ≤ 1000000000) : zz b [] l = some l := by
 rw [ql9 hb oe, jp]
structure BkR (r : qk) : Prop where
 a : ∀ a ∈ r.fg ++ r.ft, wtL a.ts ≤ 1000000000
 g : ∀ g ∈ r.fx ++ r.fp, wtL g.ts ≤ 1000000000
 la : r.fg.length + r.ft.length ≤ 1000000000
 lg : r.fx.length + r.fp.length ≤ 1000000000
 n : r.fK.size ≤ 9223372036854775807
structure yz (r : qk) : Prop where
 a : ∀ a ∈ r.fg ++ r.ft, zy a = true
 g : ∀ g ∈ r.fx ++ r.fp, zn g = true
 h0 : 0 < (r.fg ++ r.ft).length
 h4 : (r.fg ++ r.ft).length ≤ 4
 gl : r.fx.length ≤ 12
 bl : r.fp.length ≤ 12
theorem qir {r : qk} (h : r.fg.length + r.ft.length ≤ 1000000000) : qcE r = some (r.fg ++ r.ft) := by
 rw [qcE, qnY oa oa, ja, ql9 oa oa, ja]
theorem qjh {r : qk} (h : r.fx.length + r.fp.length ≤ 1000000000) : qdc r = some (r.fx ++ r.fp) := by
 rw [qdc, qnY oa oa, ja, ql9 oa oa, ja]
theorem qhQ {r : qk} (h : r.fg.length + r.ft.length ≤ 1000000000) : qbS r = some (r.fg ++ r.ft) := by
 rw [qbS, qnY oa oa, ja, ql9 oa oa, ja]
theorem qCV {k : List T → Option (List Int)} : ∀ (l : List At) (ts : List T), (∀ a ∈ l, zy a = true) → wtL ts + 200 * l.length ≤ 1000000 → (∀ us, wtL us ≤ wtL ts + 200 * l.length → Yl (k us) fun _ => True) → Yl (qbk k l ts) fun _ => True
 | [], ts, _, hw, hk => by rw [qbk]; exact hk ts oa
 | a :: l, ts, ha, hw, hk => by
  rw [jg] at hw hk
  have h1 := (qeC (ha a (jc ..))).2.1
  have h2 := qfR ts
  have h3 := qfR a.ts
  rw [qbk, ql9 oa oa, ja]
  exact qCV l _ (fun b hb => ha b (je _ hb)) (by rw [qks]; omega) fun us hus => hk us (by rw [qks] at hus; omega)
theorem qBA {k : List T → Option (List Int)} : ∀ (l : List At) (ts : List T), (∀ a ∈ l, zy a = true) → wtL ts + 200 * l.length ≤ 1000000 → ∀ Q : List Int → Prop, (∀ us, wtL us ≤ wtL ts + 200 * l.length → Yl (k us) Q) → Yl (qbZ k l ts) Q
 | [], ts, _, hw, Q, hk => by rw [qbZ]; exact hk ts oa
 | a :: l, ts, ha, hw, Q, hk => by
  rw [jg] at hw hk
  have h1 := (qeC (ha a (jc ..))).2.1
  have h2 := qfR ts
  have h3 := qfR a.ts
  rw [qbZ, ql9 oa oa, ja]
  exact qBA l _ (fun b hb => ha b (je _ hb)) (by rw [qks]; omega) Q fun us hus => hk us (by rw [qks] at hus; omega)
theorem qDi {k : List T → Option (List Int)} : ∀ (l : List Gl) (ts : List T), (∀ a ∈ l, zn a = true) → wtL ts + 200 * l.length ≤ 1000000 → ∀ Q : List Int → Prop, (∀ us, wtL us ≤ wtL ts + 200 * l.length → Yl (k us) Q) → Yl (qaT k l ts) Q
 | [], ts, _, hw, Q, hk => by rw [qaT]; exact hk ts oa
 | a :: l, ts, ha, hw, Q, hk => by
  rw [jg] at hw hk
  have h1 := (qe8 (ha a (jc ..))).2
  have h2 := qfR ts
  have h3 := qfR a.ts
  rw [qaT, ql9 oa oa, ja]
  exact qDi l _ (fun b hb => ha b (je _ hb)) (by rw [qks]; omega) Q fun us hus => hk us (by rw [qks] at hus; omega)
theorem qzq (fuel : Nat) (ts : List T) (h : wtL ts < fuel) (hm : wtL ts ≤ 1000000000) : Yl (qcd fuel ts) fun _ => True := .of (qiI fuel ts h hm) trivial
theorem qu7 (fuel : Nat) (hf : 1000000000 < fuel) {r : qk} (h : yz r) : Yl (qdU fuel r) fun _ => True := by
 have h4 := h.h4
 have h4' := h4
 rw [jb] at h4'
 unfold qdU
 rw [qir oa, ja]
 exact qCV _ [] h.a (by simp [wtL]; omega) fun us hus => .bind (qzq fuel us (by simp [wtL] at hus; omega) (by simp [wtL] at hus; omega)) fun _ _ => .pure trivial
theorem qxq (fuel : Nat) (hf : 1000000000 < fuel) {r : qk} (h : yz r) : Yl (qdo fuel r) fun _ => True := by
 have h4 := h.h4
 have h4' := h4
 have hg := h.gl
 have hb := h.bl
 have hgl : (r.fx ++ r.fp).length ≤ 24 := by rw [jb]; omega
 rw [jb] at h4'
 unfold qdo
 rw [qir oa, ja]
 refine qBA _ [] h.a (by simp [wtL]; omega) _ fun us hus => ?_
 rw [qjh oa, ja]
 simp only [wtL] at hus
 exact qDi _ us h.g oa _ fun ws hws => .bind (qzq fuel ws oa oa) fun _ _ => .pure trivial
theorem qnH (fuel : Nat) (hf : 1000000000 < fuel) (ds : List qaS) {r : qk} (h : yz r) : Yl (qbY fuel ds r) fun _ => True := by
 have h4 := h.h4
 have hg := h.gl
 have hb := h.bl
 rw [jb] at h4
 unfold qbY
 rw [qir oa, ja, qjh oa, ja]
 have l4 : ∀ (k : Option Int) (_ : Yl k fun _ => True) (v l : List Int), Yl (qby k v l) fun _ => True := fun k hk v l => by
  induction l with
  | nil => rw [qby]; exact hk
  | cons x l ih =>
   rw [qby]
   exact .bind (qyt x v) fun _ _ => .cond (fun _ => .pure trivial) fun _ => ih
 have l3 : ∀ (v : List Int) (l : List Gl), (∀ g ∈ l, zn g = true) → Yl (qbx (some 0) fuel v l) fun _ => True := fun v l hl => by
  induction l with
  | nil => rw [qbx]; exact .pure trivial
  | cons x l ih =>
   have := (qe8 (hl x (jc ..))).2
   rw [qbx]
   refine .bind (R := fun _ => True) ?_ fun w _ => l4 _ (ih fun g hg => hl g (je _ hg)) v w
   unfold qbJ
   exact .bind (qzq fuel x.ts oa oa) fun _ _ => .pure trivial
 have l2 : ∀ (k : Option Int) (_ : Yl k fun _ => True) (l : List Gl), Yl (qaN k l) fun _ => True := fun k hk l => by
  induction l with
  | nil => rw [qaN]; exact hk
  | cons x l ih =>
   rw [qaN]
   exact .bind (qBs _) fun _ _ => .cond (fun _ => .pure trivial) fun _ => ih
 have l1 : ∀ (k : Option Int) (_ : Yl k fun _ => True) (l : List Gl), Yl (qX k l) fun _ => True := fun k hk l => by
  induction l with
  | nil => rw [qX]; exact hk
  | cons x l ih =>
   rw [qX]
   exact .bind (qBs _) fun _ _ => .cond (fun _ => .cond (fun _ => .pure trivial) fun _ => ih) fun _ => ih
 have l0 : ∀ (k : Option Int) (_ : Yl k fun _ => True) (l : List At), Yl (qai k ds l) fun _ => True := fun k hk l => by
  induction l with
  | nil => rw [qai]; exact hk
  | cons x l ih =>
   rw [qai]
   exact .bind (qra _ _ _) fun _ _ => .cond (fun _ => .pure trivial) fun _ => ih
 refine l0 _ (.bind (qs0 ds _) fun _ _ => .cond (fun _ => .pure trivial) fun _ => l1 _ (l2 _ (.bind (qu7 fuel hf h) fun v _ => l3 v _ fun g hg => h.g g (jo _ hg)) _) _) _
theorem qxM {Q : Int → Prop} (hQ : Q 2) {k : Option Int} : ∀ l : List At, (∀ a ∈ l, wtL a.ts ≤ 1000000000) → ((∀ a ∈ l, zy a = true) → Yl k Q) → Yl (qbe k l) Q
 | [], _, hk => by rw [qbe]; exact hk fun a h => by cases h
 | a :: l, hw, hk => by
  rw [qbe, qhr a (by have := hw a (jc ..); omega), ja]
  refine .cond (fun _ => .pure hQ) fun h => qxM hQ l (fun b hb => hw b (je _ hb)) fun hl => hk fun b hb => ?_
  rcases jh.1 hb with rfl | hb
  exact nF h
  exact hl b hb
theorem qyW {Q : Int → Prop} (hQ : Q 2) {k : Option Int} : ∀ l : List Gl, (∀ a ∈ l, wtL a.ts ≤ 1000000000) → ((∀ a ∈ l, zn a = true) → Yl k Q) → Yl (qbf k l) Q
 | [], _, hk => by rw [qbf]; exact hk fun a h => by cases h
 | a :: l, hw, hk => by
  rw [qbf, qgu a (by have := hw a (jc ..); omega), ja]
  refine .cond (fun _ => .pure hQ) fun h => qyW hQ l (fun b hb => hw b (je _ hb)) fun hl => hk fun b hb => ?_
  rcases jh.1 hb with rfl | hb
  exact nF h
  exact hl b hb
theorem qBf {Q : Int → Prop} (hQ : Q 2) {k : Option Int} (hk : Yl k Q) : ∀ (l : List Int) (i : Nat), Yl (qY k l i) Q
 | [], i => by rw [qY]; exact hk
 | x :: l, i => by
  rw [qY]
  exact .cond (fun _ => .pure hQ) fun _ => qBf hQ hk l _
theorem qwH (fuel : Nat) (hf : 1000000000 < fuel) (ds : List qaS) (r : qk) (h : BkR r) : Yl (qcp fuel ds r) fun e => e = 0 → yz r := by
 unfold qcp
 have hla := h.la
 have hlg := h.lg
 rw [qir oa, ja, qjh oa, ja]
 refine .cond (fun _ => .pure og) fun e0 => .cond (fun _ => .pure og) fun e4 => .cond (fun _ => .pure og) fun eg => .cond (fun _ => .pure og) fun eb => ?_
 have e0 := eF e0
 have e4 := dF e4
 have eg := dF eg
 have eb := dF eb
 refine qxM og _ h.a fun ha => qyW og _ h.g fun hg => ?_
 have ok : yz r := ⟨ha, hg, by omega, by omega, by omega, by omega⟩
 refine .bind (qxq fuel hf ok) fun v _ => qBf og ?_ v 0
 refine .cond (fun _ => .pure og) fun _ => .cond (fun _ => ?_) fun _ => .bind (qnH fuel hf ds ok) fun _ _ => .pure fun _ => ok
 rw [qkK, if_pos h.n, ja]
 exact .cond (fun _ => .pure og) fun _ => .bind (qnH fuel hf ds ok) fun _ _ => .pure fun _ => ok
structure BkP (p : qc) : Prop where
 r : ∀ r ∈ p.fc, BkR r
 n : ∀ d ∈ p.fH, d.fK.size ≤ 9223372036854775807
structure zW (p : qc) : Prop where
 r : ∀ r ∈ p.fc, yz r
 l : p.fc.length ≤ 40
theorem qxX (fuel : Nat) (hf : 1000000000 < fuel) (p : qc) : ∀ (l : List qk) (i : Nat), (∀ r ∈ l, BkR r) → Yl (qaH (some (0, 0)) fuel p l i) fun e => e.2 = 0 → ∀ r ∈ l, yz r
 | [], i, _ => by rw [qaH]; exact .pure fun _ r h => by cases h
 | r :: l, i, h => by
  rw [qaH]
  refine .bind (qwH fuel hf _ r (h r (jc ..))) fun e he => .cond (fun h1 => .pure fun h2 => absurd h2 (bT h1)) fun h1 => ?_
  refine (qxX fuel hf p l (i + 1) fun x hx => h x (je _ hx)).mono fun e2 h2 h3 x hx => ?_
  rcases jh.1 hx with rfl | hx
  exact he (bF h1)
  exact h2 h3 x hx
theorem qup (p : qc) {Q : Int × Int → Prop} (hQ : ∀ a b, b ≠ 0 → Q (a, b)) {k : Option (Int × Int)} (hk : Yl k Q) : ∀ (l : List qaS) (i : Nat), (∀ d ∈ l, d.fK.size ≤ 9223372036854775807) → i + l.length = p.fH.length → Yl (qbP k p l i) Q
 | [], i, _, _ => by rw [qbP]; exact hk
 | d :: l, i, h, hl => by
  rw [jg] at hl
  rw [qbP, qkK, if_pos (h d (jc ..)), ja]
  refine .cond (fun _ => .pure (hQ _ _ oa)) fun _ => .cond (fun _ => .pure (hQ _ _ oa)) fun _ => .cond (fun _ => .pure (hQ _ _ oa)) fun _ => ?_
  rw [show zS p.fH 0 (i : Int) = some ((p.fH.take (i : Int).toNat).drop (0 : Int).toNat) by unfold zS; rw [if_pos oa], ja]
  exact .bind (qsZ _ _ _) fun _ _ => .cond (fun _ => .pure (hQ _ _ oa)) fun _ => qup p hQ hk l (i + 1) (fun x hx => h x (je _ hx)) oa
theorem qy6 (fuel : Nat) (hf : 1000000000 < fuel) (p : qc) (h : BkP p) : Yl (qcj fuel p) fun e => e.2 = 0 → zW p := by
 unfold qcj
 refine .cond (fun _ => .pure og) fun _ => qup p (fun a b hb h => absurd h hb) ?_ _ 0 h.n oa
 refine .cond (fun _ => .pure og) fun hl => (qxX fuel hf p _ 0 h.r).mono fun e he h0 => ⟨he h0, by have := dF hl; omega⟩
/-! ### layer 19 -/
structure za7 (l : List (Int × At)) : Prop where
 a : ∀ q ∈ l, zy q.2 = true
 p : ∀ q ∈ l, 1 ≤ q.1
 s : l.Pairwise fun q r => q.1 < r.1
 n : l.length ≤ 500
theorem qzl {α : Type} {R : α → α → Prop} (htr : ∀ a b c, R a b → R b c → R a c) : ∀ {l : List α} {x y : α}, (l ++ [x]).Pairwise R → R x y → (l ++ [x] ++ [y]).Pairwise R := fun {l x y} h hxy => by
 rw [jZ] at h ⊢
 refine ⟨jZ.2 h, vB .., fun a ha b hb => ?_⟩
 rw [ji.1 hb]
 rcases jj.1 ha with ha | ha
 exact htr _ _ _ (h.2.2 a ha x (ji.2 rfl)) hxy
 rw [ji.1 ha]
 exact hxy
theorem qn0 {α : Type} {l done rest : List α} {i : Nat} (h : l = done ++ rest) (hi : i = done.length) (h0 : 0 < i) (hl : l.length ≤ 9000000000000000000) : ∃ pre x, done = pre ++ [x] ∧ zh l (wr ((i : Int) - 1)) = some x := by
 have hd : done ≠ [] := fun e => by rw [e] at hi; simp at hi; omega
 refine ⟨done.dropLast, done.getLast hd, (List.dropLast_concat_getLast hd).symm, ?_⟩
 have hle : i ≤ l.length := by rw [h, jb]; omega
 rw [qgI oa, show (i : Int) - 1 = ((i - 1 : Nat) : Int) by omega, qdl, h, jT oa, List.getLast_eq_getElem, hi]
 exact js _
theorem qC9 (l : List (Int × At)) (hl : l.length ≤ 9000000000000000000) : ∀ (rest done : List (Int × At)) (i : Nat), l = done ++ rest → i = done.length → (∀ q ∈ rest, wtL q.2.ts ≤ 1000000000) → ((∀ q ∈ done, zy q.2 = true) ∧ (∀ q ∈ done, 1 ≤ q.1) ∧ done.Pairwise fun q r => q.1 < r.1) → Yl (qaa (some true) l rest i) fun b => b = true → (∀ q ∈ l, zy q.2 = true) ∧ (∀ q ∈ l, 1 ≤ q.1) ∧ l.Pairwise fun q r => q.1 < r.1
 | [], done, i, h, hi, _, hd => by
  rw [qaa]
  rw [jv] at h
  exact .pure fun _ => by rw [h]; exact hd
 | q :: rest, done, i, h, hi, hw, ⟨d1, d2, d3⟩ => by
  rw [qaa]
  have hwq := hw q (jc ..)
  refine .cond (fun _ => .pure fun h => by cases h) fun h1 => ?_
  have h1 := dF h1
  have next : zy q.2 = true → (done ++ [q]).Pairwise (fun q r => q.1 < r.1) → Yl (qaa (some true) l rest (i + 1)) fun b => b = true → (∀ q ∈ l, zy q.2 = true) ∧ (∀ q ∈ l, 1 ≤ q.1) ∧ l.Pairwise fun q r => q.1 < r.1 := fun hr hp =>
   qC9 l hl rest (done ++ [q]) (i + 1) (by rw [h, jk]; rfl) (by rw [jb, jl]; omega) (fun x hx => hw x (je _ hx)) ⟨fun x hx => by
    rcases jj.1 hx with hx | hx
    exact d1 x hx
    rw [ji.1 hx]; exact hr, fun x hx => by
    rcases jj.1 hx with hx | hx
    exact d2 x hx
    rw [ji.1 hx]; omega, hp⟩
  refine .cond (fun h0 => ?_) fun h0 => ?_
  · have h0 := dT h0
    obtain ⟨pre, x, hx, hg⟩ := qn0 h hi oa hl
    rw [hg, ja]
    refine .cond (fun _ => .pure fun h => by cases h) fun h2 => ?_
    have h2 := dF h2
    rw [qhr q.2 hwq, ja]
    refine .cond (fun _ => .pure fun h => by cases h) fun h3 => next (nF h3) ?_
    rw [hx] at d3 ⊢
    exact qzl (fun _ _ _ a b => by omega) d3 oa
  · have h0 := dF h0
    rw [qhr q.2 hwq, ja]
    refine .cond (fun _ => .pure fun h => by cases h) fun h3 => next (nF h3) ?_
    rw [jz (l := done) oa]
    exact vB ..
theorem qzM (l : List (Int × At)) (hw : ∀ q ∈ l, wtL q.2.ts ≤ 1000000000) : Yl (qci l) fun b => b = true → za7 l := by
 unfold qci
 refine .cond (fun _ => .pure fun h => by cases h) fun hl => ?_
 have hl := dF hl
 exact (qC9 l oa l [] 0 rfl rfl hw ⟨fun q h => (by cases h), fun q h => (by cases h), List.Pairwise.nil⟩).mono fun b hb h => ⟨(hb h).1, (hb h).2.1, (hb h).2.2, by omega⟩
/-! ### layer 6 -/
structure za4 (b : En) : Prop where
 t : ∀ q ∈ b, zJ q.2 = true
 v : ∀ q ∈ b, 0 ≤ q.1 ∧ q.1 ≤ 1048576
 s : b.Pairwise fun q r => q.1 < r.1
 f : ∀ q ∈ b, ∀ x ∈ zP q.2, zx b x = none
theorem qvT {k : Option Bool} {Q : Bool → Prop} (hQ : Q false) (b : En) : ∀ l : List Int, ((∀ x ∈ l, zx b x = none) → Yl k Q) → Yl (qaG k b l) Q
 | [], hk => by rw [qaG]; exact hk fun x h => by cases h
 | x :: l, hk => by
  rw [qaG, qkW, ja]
  refine .cond (fun _ => .pure hQ) fun h => qvT hQ b l fun hl => hk fun y hy => ?_
  rcases jh.1 hy with rfl | hy
  simpa using h
  exact hl y hy
theorem qv7 (b : En) (fuel : Nat) (hf : 1000000000 < fuel) : ∀ l : En, (∀ q ∈ l, wt q.2 ≤ 1000000000) → Yl (qaD (some true) b fuel l) fun r => r = true → ∀ q ∈ l, ∀ x ∈ zP q.2, zx b x = none
 | [], _ => by rw [qaD]; exact .pure fun _ q h => by cases h
 | q :: l, hw => by
  have hq := hw q (jc ..)
  rw [qaD, qm7 fuel q.2 oa oa, ja]
  refine qvT (fun h => by cases h) b _ fun h1 => (qv7 b fuel hf l fun x hx => hw x (je _ hx)).mono fun r h2 h3 p hp x hx => ?_
  rcases jh.1 hp with rfl | hp
  exact h1 x (qg5.2 (.inr hx))
  exact h2 h3 p hp x hx
theorem qDw (b : En) (hl : b.length ≤ 9000000000000000000) {k : Option Bool} {Q : Bool → Prop} (hQ : Q false) (hk : (∀ q ∈ b, zJ q.2 = true) → (∀ q ∈ b, 0 ≤ q.1 ∧ q.1 ≤ 1048576) → (b.Pairwise fun q r => q.1 < r.1) → Yl k Q) : ∀ (rest done : En) (i : Nat), b = done ++ rest → i = done.length → (∀ q ∈ rest, wt q.2 ≤ 1000000000) → ((∀ q ∈ done, zJ q.2 = true) ∧ (∀ q ∈ done, 0 ≤ q.1 ∧ q.1 ≤ 1048576) ∧ done.Pairwise fun q r => q.1 < r.1) → Yl (q9 k b rest i) Q
 | [], done, i, h, hi, _, ⟨d1, d2, d3⟩ => by
  rw [q9]
  rw [jv] at h
  exact hk (by rw [h]; exact d1) (by rw [h]; exact d2) (by rw [h]; exact d3)
 | q :: rest, done, i, h, hi, hw, ⟨d1, d2, d3⟩ => by
  rw [q9]
  have hwq := hw q (jc ..)
  refine .cond (fun _ => .pure hQ) fun h1 => .cond (fun _ => .pure hQ) fun h1' => ?_
  have h1 := dF h1
  have h1' := dF h1'
  have next : zJ q.2 = true → (done ++ [q]).Pairwise (fun q r => q.1 < r.1) → Yl (q9 k b rest (i + 1)) Q := fun hr hp =>
   qDw b hl hQ hk rest (done ++ [q]) (i + 1) (by rw [h, jk]; rfl) (by rw [jb, jl]; omega) (fun x hx => hw x (je _ hx)) ⟨fun x hx => by
    rcases jj.1 hx with hx | hx
    exact d1 x hx
    rw [ji.1 hx]; exact hr, fun x hx => by
    rcases jj.1 hx with hx | hx
    exact d2 x hx
    rw [ji.1 hx]; omega, hp⟩
  refine .cond (fun h0 => ?_) fun h0 => ?_
  · have h0 := dT h0
    obtain ⟨pre, x, hx, hg⟩ := qn0 h hi oa hl
    rw [hg, ja]
    refine .cond (fun _ => .pure hQ) fun h2 => ?_
    have h2 := dF h2
    rw [qgU q.2 hwq, ja]
    refine .cond (fun _ => .pure hQ) fun h3 => next (nF h3) ?_
    rw [hx] at d3 ⊢
    exact qzl (fun _ _ _ a b => by omega) d3 oa
  · have h0 := dF h0
    rw [qgU q.2 hwq, ja]
    refine .cond (fun _ => .pure hQ) fun h3 => next (nF h3) ?_
    rw [jz (l := done) oa]
    exact vB ..
theorem qC2 (fuel : Nat) (hf : 1000000000 < fuel) (b : En) (hl : b.length ≤ 9000000000000000000) (hw : ∀ q ∈ b, wt q.2 ≤ 1000000000) : Yl (qcG fuel b) fun r => r = true → za4 b := by
 unfold qcG
 refine qDw b hl (fun h => by cases h) (fun h1 h2 h3 => ?_) b [] 0 rfl rfl hw ⟨fun q h => (by cases h), fun q h => (by cases h), List.Pairwise.nil⟩
 unfold qeq
 exact .bind (qv7 b fuel hf b hw) fun r hr => .pure fun h => ⟨h1, h2, h3, hr h⟩
theorem qwk : ∀ {b : En}, (b.Pairwise fun q r => q.1 < r.1) → ∀ q ∈ b, zx b q.1 = some q.2
 | p :: b, h, q, hq => by
  obtain ⟨h1, h2⟩ := vn.1 h
  rw [zx]
  rcases jh.1 hq with rfl | hq
  rw [if_pos rfl]
  have := h1 q hq
  rw [if_neg oa]
  exact qwk h2 q hq
theorem qtY : ∀ (b : En) (lo hi : Int), (b.Pairwise fun q r => q.1 < r.1) → (∀ q ∈ b, lo ≤ q.1 ∧ q.1 < hi) → lo ≤ hi → (b.length : Int) ≤ hi - lo
 | [], lo, hi, _, _, h => by simp; omega
 | p :: b, lo, hi, h, hv, hlh => by
  obtain ⟨h1, h2⟩ := vn.1 h
  have hp := hv p (jc ..)
  have := qtY b (p.1 + 1) hi h2 (fun q hq => by have := h1 q hq; have := hv q (je _ hq); omega) oa
  rw [jg]
  omega
theorem za4.len {b : En} (h : za4 b) : b.length ≤ 1048577 := by
 have := qtY b 0 1048577 h.s (fun q hq => by have := h.v q hq; omega) oa
 omega
/-! ### layer 21 -/
theorem qrR (n : Int) : ∀ l : List Int, Yl (qbu (some false) n l) fun _ => True
 | [] => by rw [qbu]; exact .pure trivial
 | x :: l => by rw [qbu]; exact .cond (fun _ => .pure trivial) fun _ => qrR n l
theorem qA2 (f : qi) : ∀ (l : List Int) (i : Nat), i + l.length = f.fm.length → Yl (qbK (some true) f l i) fun _ => True
 | [], i, _ => by rw [qbK]; exact .pure trivial
 | x :: l, i, h => by
  rw [jg] at h
  rw [qbK]
  refine .cond (fun _ => .pure trivial) fun _ => ?_
  rw [show zS f.fm 0 (i : Int) = some ((f.fm.take (i : Int).toNat).drop (0 : Int).toNat) by unfold zS; rw [if_pos oa], ja]
  exact .bind (qrR x _) fun _ _ => .cond (fun _ => .pure trivial) fun _ => qA2 f l (i + 1) oa
theorem qnA (f : qi) : Yl (qda f) fun b => b = true → f.fm.length ≤ 4 := by
 unfold qda
 refine .cond (fun _ => .pure fun h => by cases h) fun _ => .cond (fun _ => .pure fun h => by cases h) fun _ => .cond (fun _ => .pure fun h => by cases h) fun _ => .cond (fun _ => .pure fun h => by cases h) fun h => ?_
 have h := dF h
 exact (qA2 f _ 0 oa).mono fun _ _ _ => by omega
theorem quG (a b : Int) : Yl (qct a b) fun _ => True := by
 unfold qct
 exact .cond (fun _ => .pure trivial) fun _ => .cond (fun _ => .pure trivial) fun _ => .pure trivial
theorem qsm (b : qi) : ∀ (l : List Int) (c : Int) (i : Nat), Yl (qag (fun c => some c) b l c i) fun _ => True
 | [], c, i => by rw [qag]; exact .pure trivial
 | x :: l, c, i => by
  rw [qag]
  refine .cond (fun h => .cond (fun _ => ?_) fun _ => .pure trivial) fun _ => .pure trivial
  have h := dT h
  obtain ⟨y, hy, _⟩ := ye (l := b.fm) (i := (i : Int)) oa h
  rw [hy, ja]
  exact .bind (quG x y) fun c' _ => qsm b l c' (i + 1)
theorem qrP (a b : qi) : Yl (qbW a b) fun _ => True := by
 unfold qbW qdq
 exact .bind (quG _ _) fun r _ => .cond (fun _ => .bind (quG _ _) fun c _ => qsm b _ c 0) fun _ => qsm b _ r 0
theorem qxT (l : List qi) (hl : l.length ≤ 9000000000000000000) : ∀ (rest done : List qi) (i : Nat), l = done ++ rest → i = done.length → Yl (q8 (some true) l rest i) fun b => b = true → ∀ f ∈ rest, f.fm.length ≤ 4
 | [], done, i, h, hi => by rw [q8]; exact .pure fun _ f h => by cases h
 | q :: rest, done, i, h, hi => by
  rw [q8]
  refine .bind (qnA q) fun b hb => .cond (fun _ => .pure fun h => by cases h) fun h1 => ?_
  have next : Yl (q8 (some true) l rest (i + 1)) fun b => b = true → ∀ f ∈ q :: rest, f.fm.length ≤ 4 := (qxT l hl rest (done ++ [q]) (i + 1) (by rw [h, jk]; rfl) (by rw [jb, jl]; omega)).mono fun b' h2 h3 f hf => by
   rcases jh.1 hf with rfl | hf
   exact hb (nF h1)
   exact h2 h3 f hf
  refine .cond (fun h0 => ?_) fun _ => next
  have h0 := dT h0
  obtain ⟨pre, x, hx, hg⟩ := qn0 h hi oa hl
  rw [hg, ja]
  exact .bind (qrP x q) fun _ _ => .cond (fun _ => .pure fun h => by cases h) fun _ => next
theorem qyY (l : List qi) : Yl (qcD l) fun b => b = true → (∀ f ∈ l, f.fm.length ≤ 4) ∧ l.length ≤ 5000 := by
 unfold qcD
 refine .cond (fun _ => .pure fun h => by cases h) fun hl => ?_
 have hl := dF hl
 exact (qxT l oa l [] 0 rfl rfl).mono fun b hb h => ⟨hb h, by omega⟩
/-! ### layer 23: states -/
theorem qyO {Q : Bool → Prop} (hQ : Q false) (b : En) (fresh : Int) {k : Option Bool} : ∀ l : List Int, ((∀ x ∈ l, x < fresh ∧ zx b x = none) → Yl k Q) → Yl (qbh k b fresh l) Q
 | [], hk => by rw [qbh]; exact hk fun x h => by cases h
 | x :: l, hk => by
  rw [qbh]
  refine .cond (fun _ => .pure hQ) fun h1 => ?_
  have h1 := dF h1
  rw [qkW, ja]
  refine .cond (fun _ => .pure hQ) fun h => qyO hQ b fresh l fun hl => hk fun y hy => ?_
  rcases jh.1 hy with rfl | hy
  exact ⟨by omega, by simpa using h⟩
  exact hl y hy
theorem quh (b : En) (fresh : Int) (l : List Int) : Yl (qcu l fresh b) fun r => r = true → ∀ x ∈ l, x < fresh ∧ zx b x = none := by
 unfold qcu
 exact qyO (fun h => by cases h) b fresh l fun h => .pure fun _ => h
theorem qAM (fuel : Nat) (hf : 1000000000 < fuel) (g : Gl) (hw : wtL g.ts ≤ 1000000000) (b : En) (fresh : Int) : Yl (qdk fuel g fresh b) fun r => r = true → ∀ x ∈ zo g.ts, zx b x = none := by
 unfold qdk qbJ
 rw [qiI fuel g.ts oa hw, ja, ja]
 exact .bind (quh b fresh _) fun r hr => .pure fun h x hx => (hr h x (qg5.2 (.inr hx))).2
theorem qyq (id : Int) : ∀ l : List (Int × At), Yl (qaV (some ((⟨⟨#[]⟩, []⟩ : At), false)) id l) fun r => r.2 = true → (id, r.1) ∈ l
 | [] => by rw [qaV]; exact .pure fun h => by cases h
 | q :: l => by
  rw [qaV]
  refine .cond (fun h => .pure fun _ => ?_) fun _ => (qyq id l).mono fun r hr h => je _ (hr h)
  rw [← eT h]
  exact jc ..
theorem quY (l : List (Int × At)) (id : Int) : Yl (qdm l id) fun r => r.2 = true → (id, r.1) ∈ l := qyq id l
structure zau (l : List (Int × At)) (b : En) (h : List qi) (next fresh : Int) : Prop where
 st : za7 l
 bd : za4 b
 hl : h.length ≤ 5000
 hi : ∀ f ∈ h, f.fm.length ≤ 4
 n1 : 1 ≤ next
 n2 : next ≤ 2147483648
 f1 : 0 ≤ fresh
 f2 : fresh ≤ 1048576
 id : ∀ q ∈ l, q.1 < next
 fr : ∀ q ∈ l, ∀ x ∈ zo q.2.ts, zx b x = none
theorem qDl (l : List (Int × At)) {k : Option Bool} {Q : Bool → Prop} (hQ : Q false) (hk : Yl k Q) : ∀ ids : List Int, Yl (qav k l ids) Q
 | [] => by rw [qav]; exact hk
 | x :: ids => by
  rw [qav]
  exact .bind (quY l x) fun _ _ => .cond (fun _ => .pure hQ) fun _ => qDl l hQ hk ids
theorem qDo (l : List (Int × At)) {p : qc} (hp : zW p) {Q : Bool → Prop} (hQ : Q false) (hT : Q true) : ∀ h : List qi, Yl (qas (some true) l p h) Q
 | [] => by rw [qas]; exact .pure hT
 | f :: h => by
  rw [qas]
  refine .cond (fun _ => .pure hQ) fun h1 => .cond (fun _ => .pure hQ) fun h2 => ?_
  have h1 := dF h1
  have h2 := dF h2
  obtain ⟨r, hr, hrm⟩ := ye (l := p.fc) (i := f.fy) oa oa
  have h4 := (hp.r r hrm).h4
  rw [jb] at h4
  rw [hr, ja, qO, ja]
  refine .cond (fun _ => .pure hQ) fun _ => ?_
  rw [qhQ oa, ja]
  exact .cond (fun _ => .pure hQ) fun _ => qDl l hQ (qDo l hp hQ hT h) _
theorem qCO {Q : Bool → Prop} (hQ : Q false) (b : En) (fresh : Int) (fuel : Nat) (hf : 1000000000 < fuel) {k : Option Bool} (hk : Yl k Q) : ∀ l : En, (∀ q ∈ l, wt q.2 ≤ 1000000000) → Yl (qar k b fresh fuel l) Q
 | [], _ => by rw [qar]; exact hk
 | q :: l, hw => by
  have hq := hw q (jc ..)
  rw [qar]
  refine .cond (fun _ => .pure hQ) fun _ => ?_
  rw [qm7 fuel q.2 oa hq, ja]
  exact .bind (quh b fresh _) fun _ _ => .cond (fun _ => .pure hQ) fun _ => qCO hQ b fresh fuel hf hk l fun x hx => hw x (je _ hx)
theorem qC6 {Q : Bool → Prop} (hQ : Q false) (b : En) (fresh next : Int) (p : qc) (fuel : Nat) (hf : 1000000000 < fuel) {k : Option Bool} : ∀ l : List (Int × At), (∀ q ∈ l, zy q.2 = true) → ((∀ q ∈ l, q.1 < next) → (∀ q ∈ l, ∀ x ∈ zo q.2.ts, zx b x = none) → Yl k Q) → Yl (qat k b fresh fuel next p l) Q
 | [], _, hk => by rw [qat]; exact hk (fun q h => by cases h) fun q h => by cases h
 | q :: l, hr, hk => by
  have hq := (qeC (hr q (jc ..))).2.1
  rw [qat]
  refine .cond (fun _ => .pure hQ) fun h1 => .bind (qsZ _ _ _) fun _ _ => .cond (fun _ => .pure hQ) fun _ => ?_
  have h1 := dF h1
  unfold qcx
  rw [qiI fuel q.2.ts oa oa, ja, ja]
  refine .bind (quh b fresh _) fun r hr' => .cond (fun _ => .pure hQ) fun h2 => qC6 hQ b fresh next p fuel hf l (fun x hx => hr x (je _ hx)) fun k1 k2 => hk (fun x hx => ?_) fun x hx v hv => ?_
  rcases jh.1 hx with rfl | hx
  omega
  exact k1 x hx
  rcases jh.1 hx with rfl | hx
  exact (hr' (nF h2) v (qg5.2 (.inr hv))).2
  exact k2 x hx v hv
theorem qzp (fuel : Nat) (hf : 1000000000 < fuel) {p : qc} (hp : zW p) (l : List (Int × At)) (b : En) (h : List qi) (next fresh : Int) (hl : ∀ q ∈ l, wtL q.2.ts ≤ 1000000000) (hbl : b.length ≤ 9000000000000000000) (hb : ∀ q ∈ b, wt q.2 ≤ 1000000000) : Yl (qcX fuel p l b h next fresh) fun r => r = true → zau l b h next fresh := by
 unfold qcX
 refine .bind (qzM l hl) fun r1 h1 => .cond (fun _ => .pure fun h => by cases h) fun e1 => .bind (qC2 fuel hf b hbl hb) fun r2 h2 => .cond (fun _ => .pure fun h => by cases h) fun e2 => .bind (qyY h) fun r3 h3 => .cond (fun _ => .pure fun h => by cases h) fun e3 => ?_
 refine .cond (fun _ => .pure fun h => by cases h) fun n1 => .cond (fun _ => .pure fun h => by cases h) fun n2 => .cond (fun _ => .pure fun h => by cases h) fun f1 => .cond (fun _ => .pure fun h => by cases h) fun f2 => ?_
 have n1 := dF n1
 have n2 := dF n2
 have f1 := dF f1
 have f2 := dF f2
 have st := h1 (nF e1)
 have h3 := h3 (nF e3)
 refine qC6 (fun h => by cases h) b fresh next p fuel hf l st.a fun k1 k2 => qCO (fun h => by cases h) b fresh fuel hf (qDo l hp (fun h => by cases h) (fun _ => ?_) h) b hb
 exact ⟨st, h2 (nF e2), h3.2, h3.1, by omega, by omega, by omega, by omega, k1, k2⟩
/-! ### layer 7 once more: the solved form's terms are small -/
theorem qtz {Q : List (Int × T) × Int → Prop} (hno : Q ([], 13)) (b : List T) (fuel : Nat) (hf : 1500000000 < fuel) {M : Nat} (hM : M ≤ 300000000) (k : List Nd → List Int → BsR) (hk : ∀ g c, StG g c → Kd M g → g.length ≤ 600000000 → Yl (k g c) Q) (hb : ∀ t ∈ b, yF t ∧ wt t ≤ M) :
 ∀ (l : List T) (i : Nat) (g : List Nd) (c : List Int), i + l.length = b.length → (∀ t ∈ l, yF t ∧ wt t ≤ M) → StG g c → Kd M g → zbA g → g.length + wtL l + wtL (b.drop i) ≤ 600000000 → Yl (qF k b fuel l i g c) Q
 | [], i, g, c, _, _, hs, hkd, _, hw => by
  rw [qF]
  exact hk g c hs hkd oa
 | t :: l, i, g, c, hi, ht, hs, hkd, hv, hw => by
  rw [jg] at hi
  obtain ⟨u, hu, hum⟩ := ye (l := b) (i := (i : Int)) oa oa
  have hd : b.drop i = u :: b.drop (i + 1) := by
   rw [qdl] at hu
   rw [j2 oa]
   rw [js oa] at hu
   rw [Option.some.inj hu]
  have hdrop : wtL (b.drop i) = wt u + wtL (b.drop (i + 1)) := by rw [hd, wtL]
  rw [wtL, hdrop] at hw
  obtain ⟨x, g1, c1, e1, E1, v1, _⟩ := qgQ fuel t g c (ht t (jc ..)).1 oa (ht t (jc ..)).2 hs hkd hv oa
  obtain ⟨s1, k1, m1, x0, x1⟩ := E1
  have hl1 := y6.le (M := M) (c := c) (c1 := c1) ⟨s1, k1, m1⟩
  obtain ⟨y, g2, c2, e2, E2, v2, _⟩ := qgQ fuel u g1 c1 (hb u hum).1 (by have := (hb u hum).2; omega) (hb u hum).2 s1 k1 v1 oa
  obtain ⟨s2, k2, m2, y0, y1⟩ := E2
  have hl2 := y6.le (M := M) (c := c1) (c1 := c2) ⟨s2, k2, m2⟩
  have hc := qse c2
  have hcl := s2.len
  obtain ⟨ok, c3, e3, s3, _, _⟩ := qm5 (g := g2) oa fuel x y c2 s2 oa oa x0 oa y0 y1
  rw [qF, e1, ja, hu, ja]
  dsimp only
  rw [e2, ja]
  dsimp only
  rw [e3, ja]
  exact .cond (fun _ => .pure hno) fun _ => qtz hno b fuel hf hM k hk hb l (i + 1) g2 c3 oa (fun t h => ht t (je _ h)) s3 k2 v2 oa
theorem qCU (fuel : Nat) (hf : 1500000000 < fuel) (a b : List T) (wa : wtL a ≤ 300000000) (wb : wtL b ≤ 300000000) : Yl (qaz fuel a b) (Ar fun p => wt p.2 ≤ 200) := by
 unfold qaz
 refine qnK _ (fun x => Yl x (Ar fun p => wt p.2 ≤ 200)) (.pure (.nil _)) a wa fun ha => qnJ _ (fun x => Yl x (Ar fun p => wt p.2 ≤ 200)) (.pure (.nil _)) b wb fun hb => ?_
 refine .cond (fun _ => .pure (.nil _)) fun hl => .bind (R := (Ar fun p => wt p.2 ≤ 200)) ?_ fun r hr => .pure hr
 have hl := bF hl
 unfold qbV
 refine qtz (.nil _) (M := 300000000) b fuel hf (jn _) _ (fun g c hs hk hg => ?_) (fun t ht => ⟨qfW (hb t ht), by have := qft ht; omega⟩) a 0 [] [] oa (fun t ht => ⟨qfW (ha t ht), by have := qft ht; omega⟩) ⟨rfl, fun v hv => by simp at hv, fun v hv => by simp at hv, fun q hq => by simp at hq⟩ (fun q hq => by simp at hq) (fun q hq => by simp at hq) oe
 obtain ⟨m, ok, e, hok⟩ := qpg (M := 300000000) oa oa hs hk fuel oa
 rw [e, ja]
 refine .cond (fun _ => .pure (.nil _)) fun h => ?_
 exact qpc (M := 300000000) oa hs fuel oa (m, ok) (hok (nF h)) (fun p => wt p.2 ≤ 200) (fun i q v t hq hqk hv ht hw => hw) fuel 0 [] oa oa og (fun p hp => by cases hp)
/-! ### layer 10 -/
theorem qyX (k : List T → List T → Option (List (Int × T) × Int)) : ∀ (b : En) (l m : List T), l.length + b.length ≤ 1000000000 → m.length + b.length ≤ 1000000000 → qbX k b l m = k (l ++ b.map fun q => T.mk 1 q.1 ⟨#[]⟩ []) (m ++ b.map fun q => q.2)
 | [], l, m, _, _ => by rw [qbX]; simp
 | q :: b, l, m, hl, hm => by
  rw [jg] at hl hm
  rw [qbX, qfo oa (n := b.length) oa, ja, qfo oa (n := b.length) oa, ja, qyX k b _ _ (by rw [jb, jl]; omega) (by rw [jb, jl]; omega)]
  simp
theorem qug (fuel : Nat) (b : En) (s t : T) (hb : b.length ≤ 100000000) : qeD fuel b s t = (qaz fuel (s :: b.map fun q => T.mk 1 q.1 ⟨#[]⟩ []) (t :: b.map fun q => q.2)).bind fun r => some (r.1, r.2) := by
 unfold qeD
 rw [qyX _ b [s] [t] oe oe]
 rfl
theorem qoE : ∀ b : En, wtL (b.map fun q => T.mk 1 q.1 ⟨#[]⟩ []) = b.length
 | [] => rfl
 | q :: b => by rw [jr, wtL, qoE b, wt, wtL, jg]; omega
theorem qnk : ∀ b : En, (∀ q ∈ b, wt q.2 ≤ 200) → wtL (b.map fun q => q.2) ≤ 200 * b.length
 | [], _ => by simp [wtL]
 | q :: b, h => by
  have h1 := h q (jc ..)
  have h2 := qnk b fun x hx => h x (je _ hx)
  rw [jr, wtL, jg]
  omega
theorem qnd (b : En) : ∀ (c : En) (out : List Int), out.length + c.length ≤ 1000000000 → Yl (qbo (fun o => some o) b c out) fun _ => True
 | [], out, _ => by rw [qbo]; exact .pure trivial
 | q :: c, out, h => by
  rw [jg] at h
  rw [qbo, qkW, ja]
  refine .cond (fun _ => ?_) fun _ => qnd b c out oa
  rw [qfo oa (n := c.length) oa, ja]
  exact qnd b c _ (by rw [jb, jl]; omega)
theorem qnz (fuel : Nat) (hf : 1500000000 < fuel) {b : En} (hb : za4 b) {s t : T} (hs : wt s ≤ 1000000) (ht : wt t ≤ 1000000) : Yl (qdS fuel b s t) fun r => r = true → zJ s = true ∧ zJ t = true := by
 have hl := hb.len
 unfold qdS
 refine .bind (qC2 fuel oa b oa fun q hq => by have := (qe7 (hb.t q hq)).2; omega) fun r hr => .cond (fun _ => ?_) fun _ => .pure fun h => by cases h
 rw [qgU s oa, ja]
 refine .cond (fun h1 => ?_) fun _ => .pure fun h => by cases h
 rw [qgU t oa, ja]
 exact .pure fun h2 => ⟨h1, h2⟩
structure Gud (b c : En) : Prop where
 w : ∀ q ∈ c, wt q.2 ≤ 200
 z : ∀ v, zx b v = none → gz (zx c) v = 1
 l : c.length ≤ 1000000000
theorem Gud.self {b : En} (hb : za4 b) : Gud b b := ⟨fun q hq => (qe7 (hb.t q hq)).2, fun v hv => by unfold gz; rw [hv]; rfl, by have := hb.len; omega⟩
mutual
theorem qx8 {θ θ' : Int → T} : ∀ t : T, zF t = true → (∀ v ∈ zP t, θ v = θ' v) → thT θ t = thT θ' t
 | .mk k i s ar, h, hv => by
  by_cases h1 : k = 1
  subst h1
  rw [qp5 θ rfl, qp5 θ' rfl]
  exact hv _ (by rw [qlS (t := .mk 1 i s ar) rfl]; exact ji.2 rfl)
  rw [qsz θ (t := .mk k i s ar) h1, qsz θ' (t := .mk k i s ar) h1]
  by_cases h2 : k = 2
  subst h2
  rw [qmi rfl, jm] at h
  show T.mk 2 i s (thL θ ar) = T.mk 2 i s (thL θ' ar)
  rw [qvZ ar h.2 fun v hv' => hv v (by rw [qlT (t := .mk 2 i s ar) rfl]; exact hv')]
  have h0 : ar.length = 0 := by
   by_cases e : k = 0
   subst e
   rw [qmY rfl] at h
   exact (of_decide_eq_true h).2.2.2
   rw [qnV (t := .mk k i s ar) e h1 h2] at h
   cases h
  show T.mk k i s (thL θ ar) = T.mk k i s (thL θ' ar)
  rw [jz h0, thL, thL]
theorem qvZ {θ θ' : Int → T} : ∀ l : List T, zN l = true → (∀ v ∈ zo l, θ v = θ' v) → thL θ l = thL θ' l
 | [], _, _ => by rw [thL, thL]
 | t :: l, h, hv => by
  rw [zN, jm] at h
  rw [thL, thL, qx8 t h.1 fun v hv' => hv v (by rw [zo]; exact jo _ hv'), qvZ l h.2 fun v hv' => hv v (by rw [zo]; exact jt _ hv')]
end
mutual
theorem qy7 (θ : Int → T) : ∀ t : T, zD t ≤ zD (thT θ t)
 | .mk k i s ar => by
  by_cases h1 : k = 1
  rw [qnm (t := .mk k i s ar) (show k ≠ 2 by omega)]
  exact qsg _
  rw [qsz θ (t := .mk k i s ar) h1]
  by_cases h2 : k = 2
  rw [qre (t := .mk k i s ar) h2, qre (t := T.mk (T.mk k i s ar).k _ _ _) h2]
  have := qwr θ ar
  show 1 + zw ar ≤ 1 + zw (thL θ ar)
  omega
  rw [qnm (t := .mk k i s ar) h2]
  exact qsg _
theorem qwr (θ : Int → T) : ∀ l : List T, zw l ≤ zw (thL θ l)
 | [] => by rw [thL]; exact jn _
 | t :: l => by
  have := qy7 θ t
  have := qwr θ l
  rw [thL, zw, zw]
  omega
end
theorem qzS {t : T} (h : zF t = true) (hk : t.k = 0) : t = .mk 0 t.i ⟨#[]⟩ [] := by
 rw [qmY hk] at h
 have h := of_decide_eq_true h
 rw [← quJ t, hk]
 show T.mk 0 t.i t.s t.ar = T.mk 0 t.i ⟨#[]⟩ []
 rw [jz h.2.2.2, show t.s = ⟨#[]⟩ from qmW (h.2.2.1.trans (by rw [Lib.toList_data]))]
theorem qDA {b : En} (hb : za4 b) (σ : Int → T) (hσ : ∀ v, zD (σ v) = 1) {c : En} (h : ∀ p ∈ c, thT σ ((zx b p.1).getD (T.mk 1 p.1 ⟨#[]⟩ [])) = thT (fun v => thT σ ((zx b v).getD (T.mk 1 v ⟨#[]⟩ []))) p.2 ∧ wt p.2 ≤ 200) (hl : c.length ≤ 1000000000) : Gud b c := by
 refine ⟨fun q hq => (h q hq).2, fun v hv => ?_, hl⟩
 unfold gz
 cases hc : zx c v with
 | none => rfl
 | some u =>
  have e := (h (v, u) (qnB hc)).1
  dsimp only at e
  rw [hv] at e
  have e1 : thT σ ((none : Option T).getD (T.mk 1 v ⟨#[]⟩ [])) = σ v := qp5 σ rfl
  rw [e1] at e
  have h1 := qy7 (fun v => thT σ ((zx b v).getD (T.mk 1 v ⟨#[]⟩ []))) u
  rw [← e, hσ] at h1
  have := qsg u
  show zD u = 1
  omega
theorem qC1 {b : En} (hb : za4 b) (σ : Int → T) : thL (fun v => thT σ ((zx b v).getD (T.mk 1 v ⟨#[]⟩ []))) (b.map fun q => T.mk 1 q.1 ⟨#[]⟩ []) = thL (fun v => thT σ ((zx b v).getD (T.mk 1 v ⟨#[]⟩ []))) (b.map fun q => q.2) := by
 rw [qj9, qj9, jJ, jJ]
 refine List.map_congr_left fun q hq => ?_
 show thT _ (T.mk 1 q.1 ⟨#[]⟩ []) = thT _ q.2
 rw [qp5 _ rfl]
 show thT σ ((zx b q.1).getD _) = _
 rw [qwk hb.s q hq]
 refine (qx8 q.2 (qe7 (hb.t q hq)).1 fun v hv => ?_).symm
 rw [hb.f q hq v hv]
 exact qp5 σ rfl
theorem qAO (fuel : Nat) (hf : 1500000000 < fuel) {b : En} (hb : za4 b) (s : T) (hs : wt s ≤ 1000000) (hfree : s.k = 1 → zx b s.i = none) (n : Int) : Yl (qb8 fuel b s (T.mk 0 n ⟨#[]⟩ [])) fun r => r.2.2 = 0 → Gud b r.1 := by
 have hl := hb.len
 have hbw : ∀ q ∈ b, wt q.2 ≤ 200 := fun q hq => (qe7 (hb.t q hq)).2
 have w1 := qoE b
 have w2 := qnk b hbw
 have wn : wt (T.mk 0 n ⟨#[]⟩ []) = 1 := by rw [wt, wtL]
 have wa : wtL (s :: b.map fun q => T.mk 1 q.1 ⟨#[]⟩ []) ≤ 300000000 := by rw [wtL]; omega
 have wb : wtL (T.mk 0 n ⟨#[]⟩ [] :: b.map fun q => q.2) ≤ 300000000 := by rw [wtL]; omega
 unfold qb8
 refine .bind (qnz fuel hf hb hs oa) fun r hr => .cond (fun _ => .pure fun h => absurd h (show ¬ (2 : Int) = 0 by omega)) fun h => ?_
 obtain ⟨hrs, _⟩ := hr (nF h)
 have hsf := (qe7 hrs).1
 rw [qug fuel b s _ oa]
 have fin : ∀ σ : Int → T, (∀ v, zD (σ v) = 1) → thT (fun v => thT σ ((zx b v).getD (T.mk 1 v ⟨#[]⟩ []))) s = T.mk 0 n ⟨#[]⟩ [] → Yl (((qaz fuel (s :: b.map fun q => T.mk 1 q.1 ⟨#[]⟩ []) (T.mk 0 n ⟨#[]⟩ [] :: b.map fun q => q.2)).bind fun r => some (r.1, r.2)).bind fun r_3 => (bif (r_3.2 != (0 : Int)) then some ([], [], r_3.2) else ((qc9 b r_3.1).bind fun r_5 => some (r_3.1, r_5, 0)))) fun r => r.2.2 = 0 → Gud b r.1 := fun σ hσ e => by
  refine .bind (R := Ar fun p => thT σ ((zx b p.1).getD (T.mk 1 p.1 ⟨#[]⟩ [])) = thT (fun v => thT σ ((zx b v).getD (T.mk 1 v ⟨#[]⟩ []))) p.2 ∧ wt p.2 ≤ 200) ?_ fun r hr => .cond (fun h1 => .pure fun h2 => absurd h2 (bT h1)) fun _ => ?_
  refine .bind (qDs (fun v => thT σ ((zx b v).getD (T.mk 1 v ⟨#[]⟩ []))) fuel hf _ _ ?_ wa wb) fun r hr => .pure hr
  rw [thL, thL, e, qC1 hb σ, qsz _ (show (T.mk 0 n ⟨#[]⟩ []).k ≠ 1 by simp [T.k])]
  rfl
  have hlen := hr.2
  unfold qc9
  exact .bind (qnd b r.1 [] oe) fun _ _ => .pure fun _ => qDA hb σ hσ hr.1 hlen
 by_cases h1 : s.k = 1
 refine fin (fun v => if v = s.i then T.mk 0 n ⟨#[]⟩ [] else T.mk 1 v ⟨#[]⟩ []) (fun v => ?_) ?_
 split
 exact qnm (by simp [T.k])
 exact qnm (by simp [T.k])
 rw [qp5 _ h1, hfree h1]
 show thT _ (T.mk 1 s.i ⟨#[]⟩ []) = _
 rw [qp5 _ rfl]
 exact if_pos rfl
 by_cases h0 : s.k = 0 ∧ s.i = n
 have e := qzS hsf h0.1
 rw [h0.2] at e
 refine fin (fun v => T.mk 1 v ⟨#[]⟩ []) (fun v => qnm (by simp [T.k])) ?_
 rw [e, qsz _ (by simp [T.k])]
 rfl
 refine .bind (R := fun r => r.2 ≠ 0) (.bind (qy5 fuel hf s _ _ _ h1 (by simp [T.k]) ?_ wa wb) fun r hr => .pure hr) fun r hr => .cond (fun h1 => .pure fun h2 => absurd h2 (bT h1)) fun h => absurd (bF h) hr
 show s.k ≠ 0 ∨ s.i ≠ n
 omega
/-! ### layer 10: any two terms -/
theorem qDf (fuel : Nat) (hf : 1500000000 < fuel) {b : En} (hb : za4 b) (s t : T) (hs : wt s ≤ 1000000) (ht : wt t ≤ 1000000) : Yl (qb8 fuel b s t) fun r => r.2.2 = 0 → (∀ q ∈ r.1, wt q.2 ≤ 200) ∧ r.1.length ≤ 1000000000 := by
 have hl := hb.len
 have hbw : ∀ q ∈ b, wt q.2 ≤ 200 := fun q hq => (qe7 (hb.t q hq)).2
 have w1 := qoE b
 have w2 := qnk b hbw
 unfold qb8
 refine .bind (qnz fuel hf hb hs ht) fun r hr => .cond (fun _ => .pure fun h => absurd h (show ¬ (2 : Int) = 0 by omega)) fun h => ?_
 rw [qug fuel b s t oa]
 refine .bind (R := Ar fun p => wt p.2 ≤ 200) (.bind (qCU fuel hf _ _ (by rw [wtL]; omega) (by rw [wtL]; omega)) fun r hr => .pure hr) fun r hr => .cond (fun h1 => .pure fun h2 => absurd h2 (bT h1)) fun _ => ?_
 have hlen := hr.2
 unfold qc9
 exact .bind (qnd b r.1 [] oe) fun _ _ => .pure fun _ => hr
theorem qzo (fuel : Nat) (hf : 1500000000 < fuel) {b : En} (hb : za4 b) (s t : T) (hs : wt s ≤ 200) (ht : wt t ≤ 200) (hfree : s.k = 1 → zx b s.i = none) : Yl (qcT fuel b s t) fun r => r.2.2 = 0 → Gud b r.1 := by
 have hbw : ∀ q ∈ b, wt q.2 ≤ 200 := fun q hq => (qe7 (hb.t q hq)).2
 unfold qcT
 refine .bind (qnz fuel hf hb oa oa) fun r hr => .cond (fun _ => .pure fun h => absurd h (show ¬ (2 : Int) = 0 by omega)) fun h => ?_
 rw [qwh b fuel t oa oa, ja]
 have hw := qBB oa hbw t
 have hw2 : wt t * 200 ≤ 200 * 200 := jK _ ht
 obtain ⟨e, he⟩ := qmy fuel (apT b t) oa
 rw [he, ja]
 refine .cond (fun h1 => .pure fun h2 => absurd h2 (bT h1)) fun _ => .bind (qAO fuel hf hb s oa hfree e.1) fun r hr => .pure hr
theorem two {α : Type} {l : List α} (h : l.length = 2) : ∃ a b, l = [a, b] := by
 match l, h with
 | [a, b], _ => exact ⟨a, b, rfl⟩
theorem qvC {g : Gl} (hg : zn g = true) (h : g.op = 3 ∨ g.op = 4) : ∃ s t, g.ts = [s, t] ∧ wt s ≤ 200 ∧ wt t ≤ 200 := by
 obtain ⟨h1, h2⟩ := qnS oa hg
 have hl : g.ts.length = 2 := by
  unfold zR at h1
  rcases h with h | h <;> (rw [h] at h1; simp at h1; omega)
 obtain ⟨s, t, e⟩ := two hl
 have hw := (qpK h2).2
 rw [e, wtL, wtL, wtL] at hw
 exact ⟨s, t, e, by omega, by omega⟩
theorem qnv {g : Gl} (hg : zn g = true) : 0 ≤ g.op ∧ g.op ≤ 12 := by
 by_cases h : g.op = 0
 omega
 have h1 := (qnS h hg).1
 unfold zR at h1
 split at h1
 omega
 split at h1
 omega
 split at h1
 omega
 omega
theorem qwB (fuel : Nat) (hf : 1500000000 < fuel) {b : En} (hb : za4 b) (g : Gl) (hg : zn g = true) (h0 : g.op ≠ 0) (h4 : g.op ≤ 4) (hfr : ∀ v ∈ zo g.ts, zx b v = none) : Yl (qcF fuel b g) fun r => r.2.2 = 0 → ((∀ q ∈ r.1, wt q.2 ≤ 200) ∧ r.1.length ≤ 1000000000) ∧ (g.op ≠ 3 → Gud b r.1) := by
 unfold qcF
 refine .cond (fun _ => .pure fun _ => ⟨⟨(Gud.self hb).w, (Gud.self hb).l⟩, fun _ => .self hb⟩) fun h1 => .cond (fun _ => .pure fun h => absurd h (show ¬ (13 : Int) = 0 by omega)) fun h2 => ?_
 have h1 := eF h1
 have h2 := eF h2
 have hop := qnv hg
 obtain ⟨s, t, e, hs, ht⟩ := qvC hg oa
 have g0 : zh g.ts 0 = some s := by rw [e]; rfl
 have g1 : zh g.ts 1 = some t := by rw [e]; rfl
 refine .cond (fun h3 => ?_) fun h3 => ?_
 have h3 := eT h3
 rw [g0, ja, g1, ja]
 exact .bind (qDf fuel hf hb s t oa oa) fun r hr => .pure fun h => ⟨hr h, fun h => absurd h3 h⟩
 rw [g0, ja, g1, ja]
 refine .bind (qzo fuel hf hb s t hs ht fun hk => hfr s.i ?_) fun r hr => .cond (fun _ => .pure fun h => ⟨⟨(hr h).w, (hr h).l⟩, fun _ => hr h⟩) fun h => .cond (fun h6 => .pure fun h => ?_) fun _ => .pure fun h => absurd h (show ¬ (13 : Int) = 0 by omega)
 rw [e, zo, qlS hk]
 exact jo _ (ji.2 rfl)
 have := eT h6
 dsimp only at h
 omega
/-! ### layer 11 -/
theorem qCY (fuel : Nat) (hf : 1500000000 < fuel) {b : En} (hbw : ∀ q ∈ b, wt q.2 ≤ 200) (known : List Gl) (hk : ∀ g ∈ known, wtL g.ts ≤ 200) (g : Gl) (hg : wtL g.ts ≤ 40000) : Yl (qe9 fuel b known g) fun _ => True := by
 unfold qe9
 rw [qpk b fuel g oa oa, ja]
 have hw := qro oa hbw g.ts
 have hw2 : wtL g.ts * 200 ≤ 40000 * 200 := jK _ hg
 have main : ∀ l : List Gl, (∀ g ∈ l, wtL g.ts ≤ 200) → Yl (qbT ((qd1 fuel ⟨g.op, g.n, apL b g.ts⟩).bind fun r_4 => some r_4) b fuel ⟨g.op, g.n, apL b g.ts⟩ l) fun _ => True := fun l => by
  induction l with
  | nil =>
   intro _
   rw [qbT]
   obtain ⟨r, e⟩ := qAj fuel hf ⟨g.op, g.n, apL b g.ts⟩ (show wtL (apL b g.ts) ≤ 300000000 by omega)
   rw [e, ja]
   exact .pure trivial
  | cons x l ih =>
   intro h
   have hx := h x (jc ..)
   have hw3 := qro oa hbw x.ts
   have ih := ih fun y hy => h y (je _ hy)
   rw [qbT, qs7 ⟨g.op, g.n, apL b g.ts⟩ (show wtL (apL b g.ts) ≤ 1000000000 by omega), ja]
   refine .cond (fun _ => ?_) fun _ => ih
   rw [qpk b fuel x oa oa, ja, qw7 ⟨g.op, g.n, apL b g.ts⟩ _ (show wtL (apL b g.ts) ≤ 1000000000 by omega), ja]
   exact .cond (fun _ => .pure trivial) fun _ => ih
 exact main known hk
/-! ### layer 23: the heads of a rule and constraints -/
theorem qwo (g : Int → Option T) : ∀ (ps ts l : List T), vL ps ts = some l → (∀ q ∈ (zo ps).zip l, ∃ u, g q.1 = some u ∧ zD u = zD q.2) → ts.map zD = ps.map (szT (gz g))
 | [], [], l, h, hq => rfl
 | p :: ps, t :: ts, l, h, hq => by
  rw [vL] at h
  cases ha : vT p t with
  | none =>
   rw [ha] at h
   cases h
  | some a =>
   cases hb : vL ps ts with
   | none =>
    rw [ha, hb] at h
    cases h
   | some b =>
    rw [ha, hb] at h
    obtain rfl := Option.some.inj h
    have hl := qs5 p t a ha
    rw [zo, List.zip_append hl.symm] at hq
    rw [jr, jr, qzD g p t a ha fun q h => hq q (jo _ h), qwo g ps ts b hb fun q h => hq q (jt _ h)]
 | [], _ :: _, l, h, _ => by
  rw [vL] at h
  cases h
 | _ :: _, [], l, h, _ => by
  rw [vL] at h
  cases h
theorem qzx {f g : Int → Option T} {ps ts : List T} (h : mtc f (zo ps) (vL ps ts) = some g) : ts.map zD = ps.map (szT (gz g)) := by
 unfold mtc at h
 cases hv : vL ps ts with
 | none =>
  rw [hv] at h
  cases h
 | some l =>
  rw [hv, ja] at h
  exact qwo g ps ts l hv (qoL _ f g h).2
theorem qza : ∀ (l : List (Int × T)) (f g : Int → Option T), rn f l = some g → ∀ v, g v ≠ none → f v ≠ none ∨ v ∈ l.map (·.1)
 | [], f, g, h, v, hv => by
  rw [rn] at h
  cases h
  exact .inl hv
 | (x, u) :: l, f, g, h, v, hv => by
  cases hf : f x with
  | none =>
   rw [qmR hf] at h
   rcases qza l _ g h v hv with h1 | h1
   unfold upd at h1
   by_cases e : v = x
   exact .inr (by rw [e]; simp)
   rw [if_neg e] at h1
   exact .inl h1
   exact .inr (je _ h1)
  | some w =>
   rw [qnI hf] at h
   split at h
   rcases qza l f g h v hv with h1 | h1
   exact .inl h1
   exact .inr (je _ h1)
   cases h
theorem qCr {f g : Int → Option T} {o : List Int} {l : Option (List T)} (h : mtc f o l = some g) (v : Int) (hv : g v ≠ none) : f v ≠ none ∨ v ∈ o := by
 unfold mtc at h
 cases l with
 | none => cases h
 | some l =>
  rw [ja] at h
  refine (qza _ f g h v hv).imp id fun h => ?_
  obtain ⟨q, hq, rfl⟩ := jq.1 h
  exact (List.of_mem_zip hq).1
def Fit1 (l : List (Int × At)) (env : En) (h : At) (i : Int) : Prop := ∃ a, (i, a) ∈ l ∧ h.n = a.n ∧ a.ts.map zD = h.ts.map (szT (gz (zx env))) ∧ ∀ v ∈ zo h.ts, (zx env v).isSome = true
def hm (l : List (Int × At)) (env : En) : List At → List Int → Prop
 | [], [] => True
 | h :: hs, i :: is => Fit1 l env h i ∧ hm l env hs is
 | [], _ :: _ => False
 | _ :: _, [] => False
theorem qBm {f g : Int → Nat} : ∀ l : List T, (∀ v ∈ zo l, f v = g v) → l.map (szT f) = l.map (szT g)
 | [], _ => rfl
 | t :: l, h => by
  rw [jr, jr, qv9 t fun v hv => h v (by rw [zo]; exact jo _ hv), qBm l fun v hv => h v (by rw [zo]; exact jt _ hv)]
theorem Fit1.more {l : List (Int × At)} {env env' : En} (he : ∀ v u, zx env v = some u → zx env' v = some u) {h : At} {i : Int} (k : Fit1 l env h i) : Fit1 l env' h i := by
 obtain ⟨a, h1, h2, h3, h4⟩ := k
 refine ⟨a, h1, h2, ?_, fun v hv => ?_⟩
 rw [h3]
 refine qBm _ fun v hv => ?_
 obtain ⟨u, hu⟩ := Option.isSome_iff_exists.1 (h4 v hv)
 unfold gz
 rw [hu, he v u hu]
 obtain ⟨u, hu⟩ := Option.isSome_iff_exists.1 (h4 v hv)
 rw [he v u hu]
 rfl
theorem qxx {l : List (Int × At)} {env env' : En} (he : ∀ v u, zx env v = some u → zx env' v = some u) : ∀ (hs : List At) (is : List Int), hm l env hs is → hm l env' hs is
 | [], [], _ => trivial
 | h :: hs, i :: is, k => ⟨k.1.more he, qxx he hs is k.2⟩
 | [], _ :: _, k => k.elim
 | _ :: _, [], k => k.elim
theorem qxv {l : List (Int × At)} {env : En} {h : At} {i : Int} (k : Fit1 l env h i) : ∀ (hs : List At) (is : List Int), hm l env hs is → hm l env (hs ++ [h]) (is ++ [i])
 | [], [], _ => ⟨k, trivial⟩
 | _ :: hs, _ :: is, k' => ⟨k'.1, qxv k hs is k'.2⟩
 | [], _ :: _, k => k.elim
 | _ :: _, [], k => k.elim
theorem qyU {Q : En × Bool → Prop} (hQ : Q ([], false)) {K : Option (En × Bool)} (ids : List Int) (i : Nat) (x : Int) (hx : zh ids (i : Int) = some x) : ∀ (n m : Nat), m + n ≤ ids.length → ((∀ j, m ≤ j → j < m + n → ids[j]? ≠ some x) → Yl K Q) → Yl (qbI K i ids n (m : Int)) Q
 | 0, m, _, hk => by
  rw [qbI]
  exact hk fun j h1 h2 => by omega
 | n + 1, m, hl, hk => by
  obtain ⟨y, hy, _⟩ := ye (l := ids) (i := (m : Int)) oa oa
  rw [qbI, hy, ja, hx, ja]
  refine .cond (fun _ => .pure hQ) fun h => ?_
  have h := eF h
  have := qyU hQ ids i x hx n (m + 1) oa (K := K) fun hj => hk fun j h1 h2 => by
   by_cases e : j = m
   subst e
   rw [qdl] at hy
   rw [hy]
   exact fun h' => h (Option.some.inj h')
   exact hj j oa oa
  rw [show (m : Int) + 1 = ((m + 1 : Nat) : Int) by omega]
  exact this
theorem qBo {Q : En × Bool → Prop} (hQ : Q ([], false)) (fuel : Nat) (hf : 1000000000 < fuel) {l : List (Int × At)} (hst : ∀ q ∈ l, wtL q.2.ts ≤ 200) (ids : List Int) (k : En → Option (En × Bool)) (all : List At) (hall : ∀ a ∈ all, zy a = true) (hlen : ids.length = all.length) (h4 : all.length ≤ 4) (hk : ∀ env, hm l env all ids → ids.Nodup → EnW 200 env → (∀ v, zx env v ≠ none → ∃ h ∈ all, v ∈ zo h.ts) → Yl (k env) Q) :
 ∀ (hs ds : List At) (env : En), all = ds ++ hs → hm l env ds (ids.take ds.length) → (ids.take ds.length).Nodup → EnW 200 env → (∀ v, zx env v ≠ none → ∃ h ∈ ds, v ∈ zo h.ts) → env.length ≤ 200 * ds.length → Yl (qap k fuel ids l hs env ds.length) Q
 | [], ds, env, he, h1, h2, h3, h3d, _ => by
  rw [qap]
  rw [jv] at he
  subst he
  rw [j7 oa] at h1 h2
  exact hk env h1 h2 h3 h3d
 | h :: hs, ds, env, he, h1, h2, h3, h3d, hel => by
  have hl : all.length = ds.length + (hs.length + 1) := by rw [he, jb, jg]
  obtain ⟨x, hx, _⟩ := ye (l := ids) (i := (ds.length : Int)) oa oa
  have hx' := hx
  rw [qdl] at hx'
  have hh := (qeC (hall h (by rw [he]; simp))).2.1
  have hocc := qmr h.ts
  rw [qap, show ((ds.length : Int) - 0 : Int).toNat = ds.length by omega, hx, ja]
  refine qyU hQ ids ds.length x hx ds.length 0 oa fun hne => ?_
  refine .bind (quY l x) fun r hr => .cond (fun _ => .pure hQ) fun hfd => ?_
  have hmem := hr (nF hfd)
  have ha := hst _ hmem
  dsimp only at ha
  obtain ⟨env', ok, e, hres⟩ := quQ (W := 200) oa fuel h r.1 env oa oa ha h3 oa
  rw [e, ja]
  refine .cond (fun _ => .pure hQ) fun hok => ?_
  have hok := nF hok
  rcases hres with ⟨h5, _⟩ | ⟨_, h6, h7, h8⟩
  dsimp only at hok
  rw [h5] at hok
  cases hok
  have hn : h.n = r.1.n := by
   by_cases hn : h.n = r.1.n
   exact hn
   rw [if_neg hn] at h6
   cases h6
  rw [if_pos hn] at h6
  obtain ⟨b1, b2, _⟩ := qAN h6
  have hsz := qzx h6
  have := qBo hQ fuel hf hst ids k all hall hlen h4 hk hs (ds ++ [h]) env' (by rw [he, jk]; rfl) (by
   rw [jb, jl, List.take_add_one, hx']
   exact qxv ⟨r.1, hmem, hn, hsz, b2⟩ _ _ (qxx b1 _ _ h1)) (by
   rw [jb, jl, List.take_add_one, hx']
   refine jH.2 ⟨h2, by simp, fun a ha b hb hab => ?_⟩
   simp only [Option.toList_some, ji] at hb
   subst hb
   subst hab
   obtain ⟨j, hj, e⟩ := List.getElem_of_mem ha
   rw [vy] at hj
   refine hne j (jf _) oa ?_
   rw [List.getElem_take] at e
   rw [← e]
   exact js _) h8 (fun v hv => by
   rcases qCr h6 v hv with h9 | h9
   obtain ⟨h', hm', ho⟩ := h3d v h9
   exact ⟨h', jo _ hm', ho⟩
   exact ⟨h, by simp, h9⟩) (by rw [jb, jl]; omega)
  rw [jb, jl] at this
  exact this
theorem qzC (l : List qi) (f : qi) : Yl (qcC l f) fun _ => True := by
 unfold qcC
 induction l with
 | nil => rw [qbp]; exact .pure trivial
 | cons x l ih =>
  rw [qbp]
  exact .bind (qrP x f) fun _ _ => .cond (fun _ => .pure trivial) fun _ => ih
structure zag (l : List (Int × At)) (r : qk) (ids : List Int) (env : En) : Prop where
 len : ids.length = (r.fg ++ r.ft).length
 fit : hm l env (r.fg ++ r.ft) ids
 nd : ids.Nodup
 w : EnW 200 env
 dom : ∀ v, zx env v ≠ none → ∃ h ∈ r.fg ++ r.ft, v ∈ zo h.ts
theorem qDq (fuel : Nat) (hf : 1500000000 < fuel) {p : qc} (hp : zW p) {l : List (Int × At)} (hst : ∀ q ∈ l, wtL q.2.ts ≤ 200) {b : En} (hbw : ∀ q ∈ b, wt q.2 ≤ 200) (known : List Gl) (hk : ∀ g ∈ known, wtL g.ts ≤ 200) (h : List qi) (rule : Int) (r : qk) (hr : zh p.fc rule = some r) (ids : List Int) : Yl (q7 fuel p l b known h rule ids) fun e => e.2 = true → zag l r ids e.1 := by
 have hrule := hp.r r (qdB hr)
 have h4 := hrule.h4
 have h4' := h4
 rw [jb] at h4'
 unfold q7
 rw [hr, ja, qhQ oa, ja]
 refine .cond (fun _ => .pure fun h => by cases h) fun hlen => ?_
 have hlen := bF hlen
 refine qBo (fun h => by cases h) fuel oa hst ids _ (r.fg ++ r.ft) hrule.a oa h4 (fun env h1 h2 h3 h3d => ?_) _ [] [] rfl (by simp [hm]) og (fun q hq => by cases hq) (fun v hv => absurd rfl hv) og
 have guard : ∀ gs : List Gl, (∀ g ∈ gs, zn g = true) → Yl (qaP ((qO r).bind fun r_9 => (bif r_9 then ((qcC h (⟨rule, ids⟩ : qi)).bind fun r_11 => (bif r_11 then some ([], false) else some (env, true))) else some (env, true))) b env fuel known gs) fun e => e.2 = true → zag l r ids e.1 := fun gs => by
  induction gs with
  | nil =>
   intro _
   rw [qaP, qO, ja]
   exact .cond (fun _ => .bind (qzC h _) fun _ _ => .cond (fun _ => .pure fun h => by cases h) fun _ => .pure fun _ => ⟨by omega, h1, h2, h3, h3d⟩) fun _ => .pure fun _ => ⟨by omega, h1, h2, h3, h3d⟩
  | cons g gs ih =>
   intro hg
   have hgw := (qe8 (hg g (jc ..))).2
   have hw := qt4 (W := 200) oa (fun v => qBF oa h3 0 v) g.ts
   have hw2 : wtL g.ts * 200 ≤ 200 * 200 := jK _ hgw
   rw [qaP, qr9 env 0 fuel g oa oa, ja]
   exact .bind (qCY fuel hf hbw known hk _ (show wtL (inL (ef env 0) g.ts) ≤ 40000 by omega)) fun _ _ => .cond (fun _ => .pure fun h => by cases h) fun _ => ih fun x hx => hg x (je _ hx)
 exact guard r.fx fun g hg => hrule.g g (jo _ hg)
/-! ### choices -/
theorem qB1 {α : Type} {b : Nat} (hb : b ≤ 100) {l : List α} {x : α} {n : Nat} (h : l.length + (n + 1) ≤ 1000000000000) : zz b l [x] = some (l ++ [x]) := by
 refine qjj ?_ oe
 have : (l.length + [x].length) * b ≤ 1000000000000 * 100 := Nat.mul_le_mul oe hb
 omega
theorem qCf (k : List (List Int) → Option (List (List Int))) (h : At) (q : List Int) (hq : q.length ≤ 100) : ∀ (l : List (Int × At)) (longer : List (List Int)), longer.length + l.length ≤ 900000000000 → ∃ more, qaf k h q l longer = k (longer ++ more) ∧ more.length ≤ l.length ∧ (∀ x ∈ more, x.length = q.length + 1) ∧ ∀ y ∈ l, y.2.n = h.n → y.2.ts.length = h.ts.length → q ++ [y.1] ∈ more
 | [], longer, _ => ⟨[], by rw [qaf, jv], jn _, fun x hx => (by cases hx), fun y hy => (by cases hy)⟩
 | y :: l, longer, hl => by
  rw [jg] at hl
  have skip : ¬ (y.2.n = h.n ∧ y.2.ts.length = h.ts.length) → ∃ more, qaf k h q l longer = k (longer ++ more) ∧ more.length ≤ (y :: l).length ∧ (∀ x ∈ more, x.length = q.length + 1) ∧ ∀ z ∈ y :: l, z.2.n = h.n → z.2.ts.length = h.ts.length → q ++ [z.1] ∈ more := fun hn => by
   obtain ⟨more, e, h1, h2, h3⟩ := qCf k h q hq l longer oa
   refine ⟨more, e, by rw [jg]; omega, h2, fun z hz hz1 hz2 => ?_⟩
   rcases jh.1 hz with rfl | hz
   exact absurd ⟨hz1, hz2⟩ hn
   exact h3 z hz hz1 hz2
  rw [qaf]
  by_cases h1 : y.2.n = h.n
  rw [show (y.2.n.toList == h.n.toList) = true by rw [h1]; simp, cond_true]
  by_cases h2 : y.2.ts.length = h.ts.length
  rw [uT (show (y.2.ts.length : Int) = h.ts.length by omega), cond_true, qnY oa oa, ja, qfo oa (n := 0) oa, ja, qB1 oa (n := l.length) oa, ja]
  obtain ⟨more, e, h3, h4, h5⟩ := qCf k h q hq l (longer ++ [q ++ [y.1]]) (by rw [jb, jl]; omega)
  refine ⟨(q ++ [y.1]) :: more, by rw [e, jk]; rfl, by rw [jg, jg]; omega, fun x hx => ?_, fun z hz hz1 hz2 => ?_⟩
  rcases jh.1 hx with rfl | hx
  rw [jb, jl]
  exact h4 x hx
  rcases jh.1 hz with rfl | hz
  exact jc ..
  exact je _ (h5 z hz hz1 hz2)
  rw [uF (show (y.2.ts.length : Int) ≠ h.ts.length by omega), cond_false]
  exact skip fun h => h2 h.2
  rw [show (y.2.n.toList == h.n.toList) = false by
   simp only [beq_eq_false_iff_ne]
   exact fun e => h1 (qmW e), cond_false]
  exact skip fun h => h1 h.1
theorem qBK (k : List (List Int) → Option (List (List Int))) (l : List (Int × At)) (h : At) (m : Nat) (hm : m ≤ 100) : ∀ (lists longer : List (List Int)), (∀ q ∈ lists, q.length = m) → longer.length + lists.length * l.length ≤ 800000000000 → ∃ more, qa5 k l h lists longer = k (longer ++ more) ∧ more.length ≤ lists.length * l.length ∧ (∀ x ∈ more, x.length = m + 1) ∧ ∀ q ∈ lists, ∀ y ∈ l, y.2.n = h.n → y.2.ts.length = h.ts.length → q ++ [y.1] ∈ more
 | [], longer, _, _ => ⟨[], by rw [qa5, jv], by simp, fun x hx => (by cases hx), fun q hq => (by cases hq)⟩
 | q :: lists, longer, hq, hl => by
  rw [jg, jA, jU] at hl
  have hqm := hq q (jc ..)
  rw [qa5]
  obtain ⟨m1, e1, a1, b1, c1⟩ := qCf (fun longer_30 => qa5 k l h lists longer_30) h q oa l longer oa
  obtain ⟨m2, e2, a2, b2, c2⟩ := qBK k l h m hm lists (longer ++ m1) (fun x hx => hq x (je _ hx)) (by rw [jb]; omega)
  refine ⟨m1 ++ m2, by rw [e1, e2, jk], by rw [jb, jg, jA, jU]; omega, fun x hx => ?_, fun x hx y hy h1 h2 => ?_⟩
  rcases jj.1 hx with hx | hx
  rw [b1 x hx, hqm]
  exact b2 x hx
  rcases jh.1 hx with rfl | hx
  exact jo _ (c1 y hy h1 h2)
  exact jt _ (c2 x hx y hy h1 h2)
theorem qCT {Q : List (List Int) → Prop} {k : List (List Int) → Option (List (List Int))} (l : List (Int × At)) (hl : l.length ≤ 500) (hk : ∀ lists, lists.length ≤ 62500000000 → Yl (k lists) Q) : ∀ (hs : List At) (lists : List (List Int)) (m : Nat), (∀ q ∈ lists, q.length = m) → m + hs.length ≤ 100 → lists.length * 500 ^ hs.length ≤ 62500000000 → Yl (q0 k l hs lists) Q
 | [], lists, m, _, _, h => by
  rw [q0]
  exact hk lists (by simpa using h)
 | a :: hs, lists, m, hq, hm, h => by
  rw [jg] at hm h
  rw [q0]
  have h1 : lists.length * l.length ≤ lists.length * 500 := vx _ hl
  have hp : 1 ≤ 500 ^ hs.length := vG og
  have h2 : lists.length * 500 * 500 ^ hs.length ≤ 62500000000 := by
   rw [Nat.pow_succ] at h
   rw [Nat.mul_assoc, Nat.mul_comm 500]
   exact h
  have h3 : lists.length * 500 * 1 ≤ lists.length * 500 * 500 ^ hs.length := vx _ hp
  obtain ⟨more, e, b1, b2, _⟩ := qBK (fun longer_24 => q0 k l hs longer_24) l a m oa lists [] hq oe
  rw [e, jp]
  refine qCT l hl hk hs more (m + 1) b2 oa ?_
  have h4 : more.length * 500 ^ hs.length ≤ lists.length * 500 * 500 ^ hs.length := jK _ oa
  omega
theorem qzP (fuel : Nat) (hf : 1500000000 < fuel) {p : qc} (hp : zW p) {l : List (Int × At)} (hst : ∀ q ∈ l, wtL q.2.ts ≤ 200) {b : En} (hbw : ∀ q ∈ b, wt q.2 ≤ 200) (known : List Gl) (hk : ∀ g ∈ known, wtL g.ts ≤ 200) (h : List qi) (rule : Int) (r : qk) (hr : zh p.fc rule = some r) (k : List (List Int) → Option (List (List Int))) : ∀ (lists out : List (List Int)), out.length + lists.length ≤ 900000000000 → ∃ more, qaM k b fuel h known l p rule lists out = k (out ++ more) ∧ more.length ≤ lists.length ∧ (∀ x ∈ more, x ∈ lists ∧ ∃ env, q7 fuel p l b known h rule x = some (env, true) ∧ zag l r x env) ∧ ∀ x ∈ lists, ∀ env, q7 fuel p l b known h rule x = some (env, true) → x ∈ more
 | [], out, _ => ⟨[], by rw [qaM, jv], jn _, fun x hx => (by cases hx), fun x hx => (by cases hx)⟩
 | q :: lists, out, hl => by
  rw [jg] at hl
  obtain ⟨⟨env, ok⟩, e, he⟩ := qDq fuel hf hp hst hbw known hk h rule r hr q
  rw [qaM, e, ja]
  cases ok with
  | false =>
   rw [cond_false]
   obtain ⟨more, e1, h1, h2, h3⟩ := qzP fuel hf hp hst hbw known hk h rule r hr k lists out oa
   refine ⟨more, e1, by rw [jg]; omega, fun x hx => ⟨je _ (h2 x hx).1, (h2 x hx).2⟩, fun x hx env' he' => ?_⟩
   rcases jh.1 hx with rfl | hx
   rw [e] at he'
   cases he'
   exact h3 x hx env' he'
  | true =>
   rw [cond_true, qB1 oa (n := lists.length) oa, ja]
   obtain ⟨more, e1, h1, h2, h3⟩ := qzP fuel hf hp hst hbw known hk h rule r hr k lists (out ++ [q]) (by rw [jb, jl]; omega)
   refine ⟨q :: more, by rw [e1, jk]; rfl, by rw [jg, jg]; omega, fun x hx => ?_, fun x hx env' he' => ?_⟩
   rcases jh.1 hx with rfl | hx
   exact ⟨jc .., env, e, he rfl⟩
   exact ⟨je _ (h2 x hx).1, (h2 x hx).2⟩
   rcases jh.1 hx with rfl | hx
   exact jc ..
   exact je _ (h3 x hx env' he')
theorem qw6 (fuel : Nat) (hf : 1500000000 < fuel) {p : qc} (hp : zW p) {l : List (Int × At)} (hl : l.length ≤ 500) (hst : ∀ q ∈ l, wtL q.2.ts ≤ 200) {b : En} (hbw : ∀ q ∈ b, wt q.2 ≤ 200) (known : List Gl) (hk : ∀ g ∈ known, wtL g.ts ≤ 200) (h : List qi) (rule : Int) (r : qk) (hr : zh p.fc rule = some r) : Yl (qcK fuel p l b known h rule) fun out => out.length ≤ 62500000000 ∧ ∀ x ∈ out, ∃ env, q7 fuel p l b known h rule x = some (env, true) ∧ zag l r x env := by
 have hrule := hp.r r (qdB hr)
 have h4 := hrule.h4
 have h4' := h4
 rw [jb] at h4'
 unfold qcK
 rw [hr, ja, qhQ oa, ja]
 refine qCT l hl (fun lists hll => ?_) _ [[]] 0 (fun q hq => by rw [ji.1 hq]; rfl) oa ?_
 obtain ⟨more, e, h1, h2, _⟩ := qzP fuel hf hp hst hbw known hk h rule r hr (fun out_12 => some out_12) lists [] oe
 rw [e, jp]
 exact .pure ⟨by omega, fun x hx => (h2 x hx).2⟩
 have : 500 ^ (r.fg ++ r.ft).length ≤ 500 ^ 4 := Nat.pow_le_pow_right oa h4
 simp only [jl, jU]
 omega
/-! ### applying a substitution, taking a goal out -/
def apG (c : En) (g : Gl) : Gl := ⟨g.op, g.n, apL c g.ts⟩
def apI (c : En) (q : Int × At) : Int × At := (q.1, ⟨q.2.n, apL c q.2.ts⟩)
def inG (f : Int → T) (g : Gl) : Gl := ⟨g.op, g.n, inL f g.ts⟩
theorem qv4 (fuel : Nat) (hf : 1500000000 < fuel) (c : En) : ∀ (l out : List (Int × At)), (∀ q ∈ l, wtL q.2.ts ≤ 200) → out.length + l.length ≤ 1000000000 → qbN (fun out_7 => some out_7) c fuel l out = some (out ++ l.map (apI c))
 | [], out, _, _ => by rw [qbN, vj, jv]
 | q :: l, out, hw, hl => by
  rw [jg] at hl
  have hq := hw q (jc ..)
  rw [qbN, qxK c fuel q.2 oa oa, ja, qfo oa (n := l.length) oa, ja, qv4 fuel hf c l _ (fun x hx => hw x (je _ hx)) (by rw [jb, jl]; omega), jk]
  rfl
theorem qwW (fuel : Nat) (hf : 1500000000 < fuel) (c : En) (l : List (Int × At)) (hw : ∀ q ∈ l, wtL q.2.ts ≤ 200) (hl : l.length ≤ 1000000000) : qet fuel l c = some (l.map (apI c)) := by
 unfold qet
 rw [qv4 fuel hf c l [] hw (by simpa using hl), jp]
/-! ### states -/
structure yZ (p : qc) (s : qju) : Prop where
 pr : zW p
 sd : zau s.fj s.fu s.fC s.fQ s.fR
 gl : s.fO.length ≤ 1000
 kl : s.fP.length ≤ 500
 g : ∀ g ∈ s.fO, zn g = true ∧ g.op ≤ 4 ∧ ∀ v ∈ zo g.ts, zx s.fu v = none
 k : ∀ g ∈ s.fP, zn g = true
theorem qAp (p : qc) (g : Gl) (hw : wtL g.ts ≤ 1000000000) : Yl (qc6 p g) fun b => b = true → zn g = true ∧ g.op ≤ 4 := by
 unfold qc6
 rw [qgu g hw, ja]
 refine .cond (fun _ => .pure fun h => by cases h) fun h1 => .cond (fun _ => .pure fun h => by cases h) fun h2 => ?_
 have h2 := dF h2
 exact .cond (fun _ => .pure fun _ => ⟨nF h1, by omega⟩) fun _ => .bind (qsZ _ _ _) fun _ _ => .pure fun _ => ⟨nF h1, by omega⟩
structure BkS (s : qju) : Prop where
 g : ∀ g ∈ s.fO, wtL g.ts ≤ 1000000000
 k : ∀ g ∈ s.fP, wtL g.ts ≤ 1000000000
 st : ∀ q ∈ s.fj, wtL q.2.ts ≤ 1000000000
 b : ∀ q ∈ s.fu, wt q.2 ≤ 1000000000
 bl : s.fu.length ≤ 9000000000000000000
theorem yZ.bk {p : qc} {s : qju} (h : yZ p s) : BkS s := by
 have := h.sd.bd.len
 exact ⟨fun g hg => by have := (qe8 (h.g g hg).1).2; omega, fun g hg => by have := (qe8 (h.k g hg)).2; omega, fun q hq => by have := (qeC (h.sd.st.a q hq)).2.1; omega, fun q hq => by have := (qe7 (h.sd.bd.t q hq)).2; omega, by omega⟩
theorem yZ.sw {p : qc} {s : qju} (h : yZ p s) : ∀ q ∈ s.fj, wtL q.2.ts ≤ 200 := fun q hq => (qeC (h.sd.st.a q hq)).2.1
theorem yZ.bw {p : qc} {s : qju} (h : yZ p s) : ∀ q ∈ s.fu, wt q.2 ≤ 200 := fun q hq => (qe7 (h.sd.bd.t q hq)).2
/-! ### a built-in goal is solved -/
/-! ### a rule is applied -/
def yi : List (Int × At) → List Int → List (Int × At)
 | l, [] => l
 | l, x :: xs => yi (l.filter fun q => decide (q.1 ≠ x)) xs
theorem qsG {l : List (Int × At)} {id : Int} (h : ∀ q ∈ l, q.1 ≠ id) : l.filter (fun q => decide (q.1 ≠ id)) = l := List.filter_eq_self.2 fun q hq => by simpa using h q hq
theorem qA6 (l : List (Int × At)) (hp : l.Pairwise fun q r => q.1 < r.1) (hl : l.length ≤ 1000000000) (id : Int) : ∀ (rest done : List (Int × At)) (i : Nat), l = done ++ rest → i = done.length → (∀ q ∈ done, q.1 ≠ id) → ∃ ok, qbH (some (l, false)) id l rest i = some (l.filter (fun q => decide (q.1 ≠ id)), ok)
 | [], done, i, h, hi, hd => by
  rw [qbH]
  rw [jv] at h
  exact ⟨false, by rw [qsG (h ▸ hd)]⟩
 | q :: rest, done, i, h, hi, hd => by
  rw [qbH]
  by_cases hq : q.1 = id
  have hlen : l.length = done.length + (rest.length + 1) := by rw [h, jb, jg]
  have s1 : zS l 0 (i : Int) = some done := by
   unfold zS
   rw [if_pos oa, h, hi]
   simp
  have s2 : zS l ((i + 1 : Nat) : Int) (l.length : Int) = some rest := by
   unfold zS
   rw [if_pos oa, show ((i + 1 : Nat) : Int).toNat = done.length + 1 by omega, vI, vJ, h, List.drop_append, vY oa, show done.length + 1 - done.length = 1 by omega]
   rfl
  have hr : ∀ x ∈ rest, x.1 ≠ id := fun x hx => by
   rw [h, jZ] at hp
   have := (vn.1 hp.2.1).1 x hx
   omega
  refine ⟨true, ?_⟩
  rw [uT hq, cond_true, s1, ja, qnY oa oa, ja, s2, ja, ql9 oa oa, ja, h, Ja, vE, if_neg (by simpa using hq), qsG hd, qsG hr]
  rw [uF hq, cond_false]
  refine qA6 l hp hl id rest (done ++ [q]) (i + 1) (by rw [h, jk]; rfl) (by rw [jb, jl]; omega) fun x hx => ?_
  rcases jj.1 hx with hx | hx
  exact hd x hx
  rw [ji.1 hx]
  exact hq
theorem qCW (l : List (Int × At)) (hp : l.Pairwise fun q r => q.1 < r.1) (hl : l.length ≤ 1000000000) (id : Int) : ∃ ok, qeZ l id = some (l.filter (fun q => decide (q.1 ≠ id)), ok) := qA6 l hp hl id l [] 0 rfl rfl fun q h => by cases h
abbrev ApR := Option (List (Int × At) × List qi × List Gl × Int)
theorem qyT {Q : List (Int × At) × List qi × List Gl × Int → Prop} {k : List (Int × At) → ApR} (ids : List Int) : ∀ (n i : Nat) (l : List (Int × At)), (l.Pairwise fun q r => q.1 < r.1) → l.length ≤ 1000000000 → i + n = ids.length → (Yl (k (yi l (ids.drop i))) Q) → Yl (qbv k ids n l (i : Int)) Q
 | 0, i, l, _, _, hi, hk => by
  rw [qbv]
  rw [vY oa, yi] at hk
  exact hk
 | n + 1, i, l, hp, hl, hi, hk => by
  obtain ⟨x, hx, _⟩ := ye (l := ids) (i := (i : Int)) oa oa
  obtain ⟨ok, e⟩ := qCW l hp hl x
  rw [qbv, hx, ja, e, ja, show (i : Int) + 1 = ((i + 1 : Nat) : Int) by omega]
  have hle := vm (fun q : Int × At => decide (q.1 ≠ x)) l
  refine qyT ids n (i + 1) _ (hp.filter _) (by show (List.filter _ l).length ≤ _; omega) oa ?_
  rw [qdl] at hx
  rw [j2 oa, yi] at hk
  rw [js oa] at hx
  rw [Option.some.inj hx] at hk
  exact hk
theorem qA5 {Q : List (Int × At) × List qi × List Gl × Int → Prop} {k : List Int → ApR} (hk : ∀ l, Yl (k l) Q) : ∀ (l : List (Int × At)) (left : List Int), left.length + l.length ≤ 1000000000 → Yl (qah k l left) Q
 | [], left, _ => by rw [qah]; exact hk left
 | q :: l, left, h => by
  rw [jg] at h
  rw [qah, qfo oa (n := l.length) oa, ja]
  exact qA5 hk l _ (by rw [jb, jl]; omega)
theorem qsV {Q : List qi → Prop} {k : Bool → Option (List qi)} (hk : ∀ b, Yl (k b) Q) (ids : List Int) : ∀ (l : List Int) (b : Bool), Yl (qao k ids l b) Q
 | [], b => by rw [qao]; exact hk b
 | x :: l, b => by
  rw [qao]
  exact .cond (fun _ => .bind (qrR x ids) fun r _ => qsV hk ids l r) fun _ => qsV hk ids l false
theorem qsB (ids : List Int) : ∀ (l out : List qi), out.length + l.length ≤ 1000000000 → Yl (qan (fun o => some o) ids l out) fun r => r.length ≤ out.length + l.length
 | [], out, _ => by rw [qan]; exact .pure og
 | f :: l, out, h => by
  rw [jg] at h ⊢
  rw [qan]
  refine qsV (fun b => .cond (fun _ => ?_) fun _ => (qsB ids l out oa).mono fun r hr => by omega) ids _ true
  rw [qfo oa (n := l.length) oa, ja]
  exact (qsB ids l _ (by rw [jb, jl]; omega)).mono fun r hr => by rw [jb, jl] at hr; omega
theorem qAT (l : List qi) (hl : l.length ≤ 1000000) (ids : List Int) : Yl (qc8 l ids) fun r => r.length ≤ l.length := by
 unfold qc8
 exact (qsB ids l [] oe).mono fun r hr => by simpa using hr
theorem qzb {Q : List qi × Int → Prop} {k : Int → Option (List qi × Int)} (f : qi) (N : Nat) (hk : ∀ i : Nat, i ≤ N → Yl (k (i : Int)) Q) : ∀ (l : List qi) (i : Nat), i + l.length ≤ N → Yl (qa6 k f l i) Q
 | [], i, h => by rw [qa6]; exact hk i (by simpa using h)
 | x :: l, i, h => by
  rw [jg] at h
  rw [qa6]
  exact .bind (qrP x f) fun _ _ => .cond (fun _ => qzb f N hk l (i + 1) oa) fun _ => hk i oa
theorem qCB (l : List qi) (f : qi) : Yl (qdz l f) fun _ => True := by
 unfold qdz
 refine .bind (qyY l) fun r hr => .cond (fun _ => .pure trivial) fun h => .bind (qnA f) fun _ _ => .cond (fun _ => .pure trivial) fun _ => .bind (qzC l f) fun _ _ => .cond (fun _ => .pure trivial) fun _ => .cond (fun _ => .pure trivial) fun _ => ?_
 have hl := (hr (nF h)).2
 refine qzb f l.length (fun i hi => ?_) l 0 oa
 have s1 : zS l 0 (i : Int) = some (l.take i) := by
  unfold zS
  rw [if_pos oa]
  simp
 have s2 : zS l (i : Int) (l.length : Int) = some (l.drop i) := by
  unfold zS
  rw [if_pos oa]
  simp
 rw [s1, ja, qnY oa oe, ja, qfo oa (n := 0) oe, ja, s2, ja, ql9 oa oe, ja]
 exact .pure trivial
theorem quA (fuel : Nat) (hf : 1500000000 < fuel) {env : En} (he : EnW 200 env) (fresh : Int) {Q : List (Int × At) × List qi × List Gl × Int → Prop} (hQ : Q ([], [], [], 6)) {k : List Gl → ApR} : ∀ (l out : List Gl), (∀ g ∈ l, wtL g.ts ≤ 200) → out.length + l.length ≤ 1000000000 → ((∀ g ∈ l, zn (inG (ef env fresh) g) = true) → Yl (k (out ++ l.map (inG (ef env fresh)))) Q) → Yl (qaJ k env fresh fuel l out) Q
 | [], out, _, _, hk => by
  rw [qaJ]
  have := hk fun g h => by cases h
  rw [vj, jv] at this
  exact this
 | g :: l, out, hw, hl, hk => by
  rw [jg] at hl
  have hg := hw g (jc ..)
  have h1 := qt4 (W := 200) oa (fun v => qBF oa he fresh v) g.ts
  have h2 : wtL g.ts * 200 ≤ 200 * 200 := jK _ hg
  rw [qaJ, qr9 env fresh fuel g oa oa, ja, qgu _ (show wtL (inL (ef env fresh) g.ts) ≤ 1000000000 by omega), ja]
  refine .cond (fun _ => .pure hQ) fun hr => ?_
  rw [qfo oa (n := l.length) oa, ja]
  refine quA fuel hf he fresh hQ l _ (fun x hx => hw x (je _ hx)) (by rw [jb, jl]; omega) fun hl => ?_
  have := hk fun x hx => by
   rcases jh.1 hx with rfl | hx
   exact nF hr
   exact hl x hx
  rw [jk]
  exact this
theorem qxc (fuel : Nat) (hf : 1500000000 < fuel) {p : qc} (hp : zW p) {l : List (Int × At)} (hst : za7 l) (h : List qi) (hh : h.length ≤ 5000) (fresh : Int) (rule : Int) (r : qk) (hr : zh p.fc rule = some r) (ids : List Int) (env : En) (he : zag l r ids env) : Yl (qck fuel p l h env fresh rule ids) fun e => e.2.2.2 = 0 → e.1 = yi l (ids.drop r.fg.length) ∧ e.2.2.1 = r.fp.map (inG (ef env fresh)) ∧ ∀ g ∈ e.2.2.1, zn g = true := by
 have hrule := hp.r r (qdB hr)
 have hlen := he.len
 rw [jb] at hlen
 have hbl := hrule.bl
 have hsl := hst.n
 unfold qck
 rw [hr, ja]
 refine .cond (fun _ => .pure fun h => absurd h (show ¬ (6 : Int) = 0 by omega)) fun _ => ?_
 rw [show ((ids.length : Int) - (r.fg.length : Int)).toNat = ids.length - r.fg.length by omega]
 have hrl : ∀ (xs : List Int) (l : List (Int × At)), (yi l xs).length ≤ l.length := fun xs => by
  induction xs with
  | nil => intro l; rw [yi]; exact jn _
  | cons x xs ih =>
   intro l
   have := ih (l.filter fun q => decide (q.1 ≠ x))
   have := vm (fun q : Int × At => decide (q.1 ≠ x)) l
   rw [yi]
   omega
 refine qyT ids _ _ l hst.s oa oa (qA5 (fun left => .bind (qAT h oa left) fun h' _ => ?_) _ [] (by have := hrl (ids.drop r.fg.length) l; simp; omega))
 have fin : ∀ h2 : List qi, Yl (qaJ (fun body_22 => some (yi l (ids.drop r.fg.length), h2, body_22, 0)) env fresh fuel r.fp []) fun e => e.2.2.2 = 0 → e.1 = yi l (ids.drop r.fg.length) ∧ e.2.2.1 = r.fp.map (inG (ef env fresh)) ∧ ∀ g ∈ e.2.2.1, zn g = true := fun h2 => by
  refine quA fuel hf he.w fresh (fun h => absurd h (show ¬ (6 : Int) = 0 by omega)) _ [] (fun g hg => (qe8 (hrule.g g (jt _ hg))).2) oe fun hb => .pure fun _ => ⟨rfl, by simp, fun g hg => ?_⟩
  simp only [jp] at hg
  obtain ⟨x, hx, rfl⟩ := jq.1 hg
  exact hb x hx
 unfold qdr qO
 rw [ja]
 exact .cond (fun _ => .bind (qCB _ _) fun r2 _ => .cond (fun _ => .pure fun h => absurd h (show ¬ (6 : Int) = 0 by omega)) fun _ => fin _) fun _ => fin _
theorem qo2 : ∀ (xs : List Int) (l : List (Int × At)), ∀ q ∈ yi l xs, q ∈ l
 | [], l, q, h => by rw [yi] at h; exact h
 | x :: xs, l, q, h => by
  rw [yi] at h
  exact (jR.1 (qo2 xs _ q h)).1
theorem qA9 : ∀ (xs : List Int) (l : List (Int × At)), (yi l xs).length ≤ l.length
 | [], l => by rw [yi]; exact jn _
 | x :: xs, l => by
  have := qA9 xs (l.filter fun q => decide (q.1 ≠ x))
  have := vm (fun q : Int × At => decide (q.1 ≠ x)) l
  rw [yi]
  omega
/-! ### the moves of a state -/
theorem qAw {l : List (Int × At)} (hst : za7 l) (x : Int × At) (hx : wtL x.2.ts ≤ 200) : Yl (qc3 l x) fun r => r.2 = 0 → r.1 = l ++ [x] ∧ zy x.2 = true := by
 have hl := hst.n
 unfold qc3
 refine .bind (qzM l fun q hq => by have := (qeC (hst.a q hq)).2.1; omega) fun _ _ => .cond (fun _ => .pure fun h => absurd h (show ¬ (2 : Int) = 0 by omega)) fun _ => ?_
 rw [qhr x.2 oa, ja]
 refine .cond (fun _ => .pure fun h => absurd h (show ¬ (2 : Int) = 0 by omega)) fun hr => .cond (fun _ => .pure fun h => absurd h (show ¬ (2 : Int) = 0 by omega)) fun _ => ?_
 have hr := nF hr
 have main : ∀ (k : Option (List (Int × At) × Int)) (_ : Yl k fun r => r.2 = 0 → r.1 = l ++ [x] ∧ zy x.2 = true) (m : List (Int × At)), Yl (qa8 k x m) fun r => r.2 = 0 → r.1 = l ++ [x] ∧ zy x.2 = true := fun k hk m => by
  induction m with
  | nil => rw [qa8]; exact hk
  | cons y m ih =>
   rw [qa8]
   exact .cond (fun _ => .pure fun h => absurd h (show ¬ (8 : Int) = 0 by omega)) fun _ => ih
 refine main _ (.cond (fun h => ?_) fun _ => .cond (fun _ => .pure fun h => absurd h (show ¬ (6 : Int) = 0 by omega)) fun _ => ?_) l
 have h := dT h
 obtain ⟨y, hy, _⟩ := ye (l := l) (i := wr ((l.length : Int) - 1)) (by rw [qgI oa]; omega) (by rw [qgI oa]; omega)
 rw [hy, ja]
 refine .cond (fun _ => .pure fun h => absurd h (show ¬ (2 : Int) = 0 by omega)) fun _ => .cond (fun _ => .pure fun h => absurd h (show ¬ (6 : Int) = 0 by omega)) fun _ => ?_
 rw [qnY oa oa, ja, qfo oa (n := 0) oa, ja]
 exact .pure fun _ => ⟨rfl, hr⟩
 rw [qnY oa oa, ja, qfo oa (n := 0) oa, ja]
 exact .pure fun _ => ⟨rfl, hr⟩
theorem qzm {α : Type} {b : Nat} {l m r : List α} (h : zz b l m = some r) : r = l ++ m := by
 unfold zz at h
 split at h
 exact (Option.some.inj h).symm
 cases h
theorem qo0 {x : Int} : ∀ {l : List T} {t : T}, t ∈ l → x ∈ zP t → x ∈ zo l
 | u :: l, t, h, hx => by
  rw [zo]
  rcases jh.1 h with rfl | h
  exact jo _ hx
  exact jt _ (qo0 h hx)
theorem qvR {x : Int} : ∀ {l : List T}, x ∈ zo l → ∃ t ∈ l, x ∈ zP t
 | [], h => by simp [zo] at h
 | u :: l, h => by
  rw [zo] at h
  rcases jj.1 h with h | h
  exact ⟨u, jc .., h⟩
  obtain ⟨t, ht, hx⟩ := qvR h
  exact ⟨t, je _ ht, hx⟩
theorem qzt : ∀ {l : List T}, zN l = true → ∀ t ∈ l, zF t = true
 | [], _, t, h => by cases h
 | u :: l, hl, t, h => by
  rw [zN, jm] at hl
  rcases jh.1 h with rfl | h
  exact hl.1
  exact qzt hl.2 t h
theorem qvq : ∀ {l : List T}, (∀ t ∈ l, zF t = true) → zN l = true
 | [], _ => by rw [zN]
 | u :: l, h => by rw [zN, h u (jc ..), qvq fun t ht => h t (je _ ht)]; rfl
theorem qCe {t : T} (h : zF t = true) : (∀ u ∈ t.ar, zF u = true) ∧ (t.k ≠ 2 → t.ar = []) ∧ (t.k = 2 → yu t = true) := by
 by_cases h2 : t.k = 2
 rw [qmi h2, jm] at h
 exact ⟨qzt h.2, fun e => absurd h2 e, fun _ => h.1⟩
 have h0 : t.ar.length = 0 := by
  by_cases h1 : t.k = 1
  rw [qlP h1] at h
  exact (of_decide_eq_true h).2.2.2
  by_cases e : t.k = 0
  rw [qmY e] at h
  exact (of_decide_eq_true h).2.2.2
  rw [qnV e h1 h2] at h
  cases h
 have := jz h0
 exact ⟨fun u hu => (by rw [this] at hu; cases hu), fun _ => this, fun e => absurd e h2⟩
/-! ### nodes -/
def locN (Pv : Int → Prop) (q : Nd) : Prop := (q.fa = 2 → ∃ ar : List T, ar.length = q.ff.length ∧ yu (T.mk 2 q.fe q.fE ar) = true) ∧ (q.fa ≠ 2 → zF (T.mk q.fa q.fe q.fE []) = true ∧ q.ff = []) ∧ (q.fa = 1 → Pv q.fe)
def UqG (g : List Nd) : Prop := ∀ i j p q, zh g i = some p → zh g j = some q → p.fa = 1 → q.fa = 1 → p.fe = q.fe → i = j
structure GI (Pv : Int → Prop) (g : List Nd) : Prop where
 l : ∀ q ∈ g, locN Pv q
 u : UqG g
theorem qsP {g : List Nd} {q p : Nd} {i : Int} (h : zh (g ++ [q]) i = some p) : zh g i = some p ∨ (i = (g.length : Int) ∧ p = q) := by
 obtain ⟨h0, h1⟩ := qb3 h
 by_cases hi : i.toNat < g.length
 rw [jT hi] at h1
 refine .inl ?_
 unfold zh
 rw [if_pos h0, h1]
 rw [vo oa] at h1
 have hb := (ju.1 h1).1
 rw [jl] at hb
 rw [show i.toNat - g.length = 0 by omega, vK] at h1
 exact .inr ⟨by omega, (Option.some.inj h1).symm⟩
theorem GI.snoc {Pv : Int → Prop} {g : List Nd} (h : GI Pv g) {q : Nd} (hl : locN Pv q) (hn : q.fa = 1 → ∀ p ∈ g, p.fa = 1 → p.fe ≠ q.fe) : GI Pv (g ++ [q]) := by
 refine ⟨fun p hp => ?_, fun i j p p' hi hj k1 k2 e => ?_⟩
 rcases jj.1 hp with hp | hp
 exact h.l p hp
 rw [ji.1 hp]
 exact hl
 rcases qsP hi with ha | ⟨ha, ea⟩
 rcases qsP hj with hb | ⟨hb, eb⟩
 exact h.u i j p p' ha hb k1 k2 e
 rw [eb] at k2 e
 exact absurd e (hn k2 p (qdB ha) k1)
 rcases qsP hj with hb | ⟨hb, eb⟩
 rw [ea] at k1 e
 exact absurd e.symm (hn k1 p' (qdB hb) k2)
 omega
theorem qtD (t : T) (g0 : List Nd) (c0 : List Int) (k : EnR) : ∀ (l : List Nd) (i : Nat), (qu k g0 c0 t l i = k ∧ ∀ q ∈ l, q.fa = 1 → q.fe ≠ t.i) ∨ ∃ n : Int, qu k g0 c0 t l i = some (n, g0, c0)
 | [], i => .inl ⟨by rw [qu], fun q h => by cases h⟩
 | q :: l, i => by
  rw [qu]
  have next := fun (hq : q.fa = 1 → q.fe ≠ t.i) => (qtD t g0 c0 k l (i + 1)).imp (fun h => (⟨h.1, fun x hx => (jh.1 hx).elim (fun e => e ▸ hq) (h.2 x)⟩ : _ ∧ ∀ x ∈ q :: l, x.fa = 1 → x.fe ≠ t.i)) id
  by_cases h1 : q.fa = 1
  · rw [uT h1, cond_true]
    by_cases h2 : q.fe = t.i
    · rw [uT h2, cond_true]
      exact .inr ⟨_, rfl⟩
    · rw [uF h2, cond_false]
      exact next fun _ => h2
  · rw [uF h1, cond_false]
    exact next fun h => absurd h h1
theorem qtf {Pv : Int → Prop} {rec : T → List Nd → List Int → EnR} {k : List Nd → List Int → Int → Int → ByteArray → List Int → EnR} (k1 k2 : Int) (s : ByteArray) (r : Int × List Nd × List Int) :
 ∀ (l : List T) (g : List Nd) (c : List Int) (kids : List Int), (∀ t ∈ l, ∀ g c x, rec t g c = some x → GI Pv g → GI Pv x.2.1) → GI Pv g → qB k rec l g c k1 k2 s kids = some r → ∃ g' c' ks, GI Pv g' ∧ ks.length = kids.length + l.length ∧ (l = [] → g' = g) ∧ k g' c' k1 k2 s ks = some r
 | [], g, c, kids, _, hg, h => by
  rw [qB] at h
  exact ⟨g, c, kids, hg, rfl, fun _ => rfl, h⟩
 | t :: l, g, c, kids, hr, hg, h => by
  rw [qB] at h
  obtain ⟨x, hx, h⟩ := qfB h
  obtain ⟨ks, hks, h⟩ := qfB h
  obtain ⟨g', c', ks', a1, a2, _, a4⟩ := qtf k1 k2 s r l _ _ ks (fun u hu => hr u (je _ hu)) (hr t (jc ..) g c x hx hg) h
  refine ⟨g', c', ks', a1, ?_, fun e => (by cases e), a4⟩
  rw [a2, qzm hks, jb, jg, jg, jP]
  omega
theorem qve {Pv : Int → Prop} : ∀ (fuel : Nat) (t : T) (g : List Nd) (c : List Int) (x : Int × List Nd × List Int), qJ fuel t g c = some x → zF t = true → (∀ v ∈ zP t, Pv v) → GI Pv g → GI Pv x.2.1
 | 0, t, g, c, x, h, _, _, _ => by
  rw [qJ] at h
  cases h
 | fuel + 1, t, g, c, x, h, hf, hv, hg => by
  obtain ⟨f1, f2, f3⟩ := qCe hf
  rw [qJ] at h
  dsimp only at h
  have main : (t.k = 1 → ∀ q ∈ g, q.fa = 1 → q.fe ≠ t.i) → qB (fun g_18 g_19 x_21 x_22 x_23 x_24 => ((zz 56 g_18 [(⟨x_21, x_22, x_23, x_24⟩ : qb)]).bind fun l_25 => ((zz 8 g_19 [(wr ((l_25.length : Int) - (1 : Int)))]).bind fun l_27 => some ((wr ((l_25.length : Int) - (1 : Int))), l_25, l_27)))) (qJ fuel) t.ar g c t.k t.i t.s [] = some x → GI Pv x.2.1 := fun hn hm => by
   obtain ⟨g', c', ks, hg', hl, he, hk⟩ := qtf (Pv := Pv) t.k t.i t.s x t.ar g c [] (fun u hu g c y e hy => qve fuel u g c y e (f1 u hu) (fun v hv' => hv v (by
    have h2 : t.k = 2 := by
     by_cases h2 : t.k = 2
     exact h2
     rw [f2 h2] at hu
     cases hu
    rw [qlT h2]
    exact qo0 hu hv')) hy) hg hm
   obtain ⟨l1, e1, hk⟩ := qfB hk
   obtain ⟨l2, e2, hk⟩ := qfB hk
   obtain rfl := Option.some.inj hk
   dsimp only
   rw [qzm e1]
   rw [jP, jx] at hl
   refine hg'.snoc ⟨fun h2 => ⟨t.ar, hl.symm, ?_⟩, fun h2 => ⟨?_, jz (by show ks.length = 0; rw [hl, f2 h2]; rfl)⟩, fun h1 => hv _ (by rw [qlS h1]; exact ji.2 rfl)⟩ fun h1 => ?_
   have h3 := f3 h2
   rw [← quJ t] at h3
   have h2' : t.k = 2 := h2
   rw [h2'] at h3
   exact h3
   have h3 := hf
   rw [← quJ t, f2 h2] at h3
   exact h3
   have h1' : t.k = 1 := h1
   rw [he (f2 oa)]
   exact hn h1
  unfold qbQ at h
  by_cases h1 : t.k = 1
  rw [uT h1, cond_true] at h
  rcases qtD t g c _ g 0 with ⟨e, hn⟩ | ⟨n, e⟩
  rw [e] at h
  exact main (fun _ => hn) h
  rw [e] at h
  obtain rfl := Option.some.inj h
  exact hg
  rw [uF h1, cond_false] at h
  exact main (fun e => absurd e h1) h
/-! ### the term of a class -/
def zcc (Pv : Int → Prop) (g : List Nd) (c : List Int) (x : Int) : Prop := Pv x ∧ ∃ j q w r, zh g j = some q ∧ q.fa = 1 ∧ q.fe = x ∧ zh c j = some w ∧ qy w g c = some r ∧ r < 0 ∧ qaO w g c = some x
theorem qwq {rec : Int → List Nd → List Int → Option T} {g : List Nd} {c : List Int} {q : Nd} (hkl : q.ff.length ≤ 1000000000) (G : T → Prop) (hr : ∀ x ∈ q.ff, ∀ w, zh c x = some w → ∀ t, rec w g c = some t → G t) (a b : Int) (s : ByteArray) :
 ∀ (n i : Nat) (l : List T) (t : T), i ≤ q.ff.length → l.length = i → (∀ u ∈ l, G u) → qp (fun t_14 t_15 t_16 t_17 => some (T.mk t_14 t_15 t_16 t_17)) rec g c q n (i : Int) a b s l = some t → ∃ l', t = .mk a b s l' ∧ l'.length = q.ff.length ∧ ∀ u ∈ l', G u
 | 0, i, l, t, _, _, _, h => by
  rw [qp] at h
  cases h
 | n + 1, i, l, t, hi, hl, hG, h => by
  rw [qp] at h
  by_cases h1 : (i : Int) < (q.ff.length : Int)
  rw [decide_eq_true h1, cond_true] at h
  obtain ⟨x, hx, h⟩ := qfB h
  obtain ⟨v, hv, h⟩ := qfB h
  obtain ⟨y, hy, h⟩ := qfB h
  obtain ⟨l2, hl2, h⟩ := qfB h
  have hg := hr x (qhd hx).2.2 v hv y hy
  rw [qzm hl2, show wr ((i : Int) + 1) = ((i + 1 : Nat) : Int) by rw [qgI oa]; omega] at h
  refine qwq hkl G hr a b s n (i + 1) _ t oa (by rw [jb, jl]; omega) (fun u hu => ?_) h
  rcases jj.1 hu with hu | hu
  exact hG u hu
  rw [ji.1 hu]
  exact hg
  rw [decide_eq_false h1, cond_false] at h
  exact ⟨l, (Option.some.inj h).symm, by omega, hG⟩
theorem qzi {i : Int} {s : ByteArray} {a b : List T} (h : yu (T.mk 2 i s a) = true) (hl : a.length = b.length) : yu (T.mk 2 i s b) = true := by
 unfold yu at h ⊢
 simp only [T.i, T.s, T.ar, hl] at h ⊢
 exact h
theorem qti {Pv : Int → Prop} {M : Nat} (hM : M ≤ 1000000000) {g : List Nd} {c : List Int} (hs : StG g c) (hk : Kd M g) (hg : GI Pv g) : ∀ (fuel : Nat) (v : Int) (t : T), qq fuel v g c = some t → (∃ i q, zh g i = some q ∧ zh c i = some v) → zF t = true ∧ ∀ x ∈ zP t, zcc Pv g c x
 | 0, v, t, h, _ => by
  rw [qq] at h
  cases h
 | fuel + 1, v, t, h, ⟨i, q, hq, hi⟩ => by
  rw [qq] at h
  dsimp only at h
  obtain ⟨r, hr, h⟩ := qfB h
  obtain ⟨r', hr', hrq⟩ := qhi hs v
  obtain rfl := Option.some.inj (hr.symm.trans hr')
  by_cases h0 : r < 0
  rw [decide_eq_true h0, cond_true] at h
  obtain ⟨x, hx, h⟩ := qfB h
  obtain rfl := Option.some.inj h
  have hk1 := qmu hr h0 hq hi
  obtain ⟨j, p, hp, hj, hpk, hpx⟩ := qtw hx hq hi hk1
  obtain ⟨_, l2, l3⟩ := hg.l p (qdB hp)
  have hf := (l2 oa).1
  rw [hpk, hpx, qlP rfl] at hf
  have hf := of_decide_eq_true hf
  refine ⟨?_, fun y hy => ?_⟩
  rw [qlP rfl]
  exact decide_eq_true ⟨hf.1, hf.2.1, Lib.toList_data _, rfl⟩
  rw [qlS rfl] at hy
  rw [ji.1 hy]
  exact ⟨hpx ▸ l3 hpk, j, p, v, r, hp, hpk, hpx, hj, hr, h0, hx⟩
  rw [decide_eq_false h0, cond_false] at h
  rcases hrq with rfl | ⟨p, hp, hpc, hpk⟩
  omega
  obtain ⟨p', hp', h⟩ := qfB h
  obtain rfl := Option.some.inj (hp.symm.trans hp')
  have hpm := qdB hp
  have hkl := hk p hpm
  obtain ⟨l', rfl, hl', hG⟩ := qwq oa (fun t => zF t = true ∧ ∀ x ∈ zP t, zcc Pv g c x) (fun x hx w hw t ht => by
   have hb := hs.kid p hpm x hx
   obtain ⟨qx, hqx, _⟩ := ye (l := g) hb.1 hb.2
   exact qti hM hs hk hg fuel w t ht ⟨x, qx, hqx, hw⟩) p.fa p.fe p.fE fuel 0 [] t (jf _) rfl (fun u hu => by cases hu) h
  obtain ⟨l1, l2, _⟩ := hg.l p hpm
  by_cases h2 : p.fa = 2
  obtain ⟨ar, ha, hh⟩ := l1 h2
  rw [h2]
  refine ⟨?_, fun x hx => ?_⟩
  rw [qmi rfl, qzi hh oa, jV]
  exact qvq fun u hu => (hG u hu).1
  rw [qlT rfl] at hx
  obtain ⟨u, hu, hx⟩ := qvR hx
  exact (hG u hu).2 x hx
  obtain ⟨hf, hkn⟩ := l2 h2
  rw [hkn] at hl'
  rw [jz hl']
  refine ⟨hf, fun x hx => ?_⟩
  rw [qrB (t := T.mk p.fa p.fe p.fE []) hpk h2] at hx
  cases hx
/-! ### the solved form -/
abbrev Sor (l : En) : Prop := l.Pairwise fun q r => q.1 < r.1
def Bnd (fuel : Nat) (g : List Nd) (c : List Int) (N : Nat) (p : Int × T) : Prop := ∃ i q v, zh g i = some q ∧ i < (N : Int) ∧ q.fa = 1 ∧ q.fe = p.1 ∧ zh c i = some v ∧ qq fuel v g c = some p.2 ∧ wt p.2 ≤ 200 ∧ yb p.2 ≤ 20 ∧ ∀ r, qy v g c = some r → r < 0 → qaO v g c ≠ some q.fe
theorem qu8 (k k' : Int → BsR) (q : Nd) : ∀ (l : En) (i : Nat), ∃ j : Nat, j ≤ l.length ∧ qaL k q l i = k ((i + j : Nat) : Int) ∧ qaI k' q l i = k' ((i + j : Nat) : Int) ∧ (∀ p ∈ l.take j, p.1 < q.fe) ∧ ∀ p m, l.drop j = p :: m → ¬ p.1 < q.fe
 | [], i => ⟨0, jn _, by rw [qaL]; rfl, by rw [qaI]; rfl, fun p h => (by cases h), fun p m h => by cases h⟩
 | x :: l, i => by
  rw [qaL, qaI, jg]
  by_cases h : x.1 < q.fe
  obtain ⟨j, h1, h2, h3, h4, h5⟩ := qu8 k k' q l (i + 1)
  rw [decide_eq_true h, cond_true, cond_true, h2, h3]
  refine ⟨j + 1, by omega, by rw [show i + 1 + j = i + (j + 1) by omega], by rw [show i + 1 + j = i + (j + 1) by omega], fun p hp => ?_, fun p m hm => h5 p m (by simpa using hm)⟩
  rw [vf] at hp
  exact (jh.1 hp).elim (fun e => e ▸ h) (h4 p)
  rw [decide_eq_false h, cond_false, cond_false]
  exact ⟨0, by omega, rfl, rfl, fun p hp => (by cases hp), fun p m hm => by rw [vz] at hm; rw [← (List.cons.inj hm).1]; exact h⟩
theorem qBX {out : En} (hs : Sor out) {j : Nat} {x : Int} (h1 : ∀ p ∈ out.take j, p.1 < x) (h2 : ∀ p m, out.drop j = p :: m → ¬ p.1 < x) (hn : ∀ p ∈ out, p.1 ≠ x) (t : T) : Sor (out.take j ++ [(x, t)] ++ out.drop j) := by
 have hs' := hs
 rw [← j6 j out] at hs'
 obtain ⟨a1, a2, a3⟩ := jZ.1 hs'
 have gt : ∀ p ∈ out.drop j, x < p.1 := by
  cases hd : out.drop j with
  | nil => exact fun p h => by cases h
  | cons p0 m =>
   have h0 := h2 p0 m hd
   have hm0 : p0 ∈ out := jW (by rw [hd]; exact jc ..)
   have := hn p0 hm0
   rw [hd] at a2
   have a4 := (vn.1 a2).1
   intro p hp
   rcases jh.1 hp with rfl | hp
   omega
   have := a4 p hp
   omega
 unfold Sor
 rw [jZ, jZ]
 refine ⟨⟨a1, vB .., fun a ha b hb => ?_⟩, a2, fun a ha b hb => ?_⟩
 rw [ji.1 hb]
 exact h1 a ha
 rcases jj.1 ha with ha | ha
 exact a3 a ha b hb
 rw [ji.1 ha]
 exact gt b hb
theorem qt2 {M : Nat} {g : List Nd} (hg : g.length ≤ 1000000000) {c : List Int} (h : StG g c) (hu : UqG g) (fuel : Nat) (hf : g.length + M + 2 ≤ fuel) (m : List Ms × Bool) (hm : ∀ v ∈ c, ((∃ y, zh m.1 v = some y) ∧ yy M g c g.length v) ∧ ∀ y, zh m.1 v = some y → (y.fh ≤ 200 → zaK g c v y.fh) ∧ (y.fo ≤ 20 → zbf g c v y.fo)) :
 ∀ (n i : Nat) (out : En), g.length < n + i → i ≤ g.length → out.length ≤ i → Sor out → (∀ p ∈ out, Bnd fuel g c i p) → Yl (qE (fun out_24 => some (out_24, 0)) fuel m n out (i : Int) g c) fun r => r.2 = 0 → Sor r.1 ∧ ∀ p ∈ r.1, Bnd fuel g c g.length p
 | 0, i, out, h1, h2, _, _, _ => by omega
 | n + 1, i, out, h1, h2, h3, h4, h5 => by
  have hl := h.len
  rw [qE]
  by_cases hi : i < g.length
  · obtain ⟨v, hv, hvm⟩ := ye (l := c) (i := (i : Int)) oa oa
    obtain ⟨q, hq, hqm⟩ := ye (l := g) (i := (i : Int)) oa oa
    obtain ⟨⟨⟨y, hy⟩, ht⟩, hwg⟩ := hm v hvm
    obtain ⟨t, ht⟩ := ht fuel hf
    obtain ⟨r, hr, _⟩ := qhi h v
    obtain ⟨s, hs⟩ := qng h v
    have hi' : wr ((i : Int) + 1) = ((i + 1 : Nat) : Int) := by
     rw [qgI oa]
     omega
    have next := fun out ho hso hp => qt2 hg h hu fuel hf m hm n (i + 1) out oa oa ho hso hp
    have skip := next out oa h4 fun p hp => by
     obtain ⟨j, q', v', b1, b2, b3⟩ := h5 p hp
     exact ⟨j, q', v', b1, by omega, b3⟩
    have bad : Yl (some (([] : En), (6 : Int))) fun r => r.2 = 0 → Sor r.1 ∧ ∀ p ∈ r.1, Bnd fuel g c g.length p := .pure fun h => absurd h (show ¬ (6 : Int) = 0 by omega)
    have new : q.fa = 1 → (r < 0 → s ≠ q.fe) → y.fh ≤ 200 → y.fo ≤ 20 → ∀ j : Nat, j ≤ out.length → (∀ p ∈ out.take j, p.1 < q.fe) → (∀ p m, out.drop j = p :: m → ¬ p.1 < q.fe) → Yl (qE (fun out_24 => some (out_24, 0)) fuel m n (out.take j ++ [(q.fe, t)] ++ out.drop j) ((i + 1 : Nat) : Int) g c) fun r => r.2 = 0 → Sor r.1 ∧ ∀ p ∈ r.1, Bnd fuel g c g.length p := fun hk hns hy2 hd2 j hj k1 k2 => next _ oe (qBX h4 k1 k2 (fun p hp e => by
     obtain ⟨j', q', v', b1, b2, b3, b4, _⟩ := h5 p hp
     have := hu j' i q' q b1 hq b3 hk (b4.trans e)
     omega) t) fun p hp => by
     simp only [jj, ji] at hp
     have old : p ∈ out → Bnd fuel g c (i + 1) p := fun hp => by
      obtain ⟨j', q', v', b1, b2, b3⟩ := h5 p hp
      exact ⟨j', q', v', b1, by omega, b3⟩
     rcases hp with (hp | hp) | hp
     · exact old (j4 hp)
     · subst hp
       have w1 := (hwg y hy).1 hy2 fuel t ht
       have w2 := (hwg y hy).2 hd2 fuel t ht
       refine ⟨i, q, v, hq, by omega, hk, rfl, hv, ht, by dsimp only; omega, by dsimp only; omega, fun r' hr' hn e => ?_⟩
       obtain rfl := Option.some.inj (hr.symm.trans hr')
       exact hns hn (Option.some.inj (hs.symm.trans e))
     · exact old (jW hp)
    rw [decide_eq_true oa, cond_true, hv, ja, hq, ja, hi']
    refine .cond (fun _ => skip) fun hk => ?_
    have hk := bF hk
    rw [hr, ja]
    refine .cond (fun h0 => ?_) fun h0 => ?_
    · rw [hs, ja]
      refine .cond (fun _ => skip) fun hns => ?_
      rw [hy, ja]
      refine .cond (fun _ => bad) fun hy2 => .cond (fun _ => bad) fun hd2 => ?_
      rw [ht, ja]
      obtain ⟨j, hj, e, _, k1, k2⟩ := qu8 (fun k_48 => ((zS out 0 k_48).bind fun l_51 => ((zz 64 [] l_51).bind fun l_52 => ((zz 64 l_52 [(q.fe, t)]).bind fun l_54 => ((zS out k_48 (out.length : Int)).bind fun l_56 => ((zz 64 l_54 l_56).bind fun l_57 => qE (fun out_24 => some (out_24, 0)) fuel m n l_57 ((i + 1 : Nat) : Int) g c)))))) (fun _ => none) q out 0
      rw [e, jx, qkB _ out _ j oa oa]
      exact new hk (fun _ => eF hns) (by have := dF hy2; omega) (by have := dF hd2; omega) j hj k1 k2
    · rw [hy, ja]
      refine .cond (fun _ => bad) fun hy2 => .cond (fun _ => bad) fun hd2 => ?_
      rw [ht, ja]
      obtain ⟨j, hj, _, e, k1, k2⟩ := qu8 (fun _ => none) (fun k_76 => ((zS out 0 k_76).bind fun l_79 => ((zz 64 [] l_79).bind fun l_80 => ((zz 64 l_80 [(q.fe, t)]).bind fun l_82 => ((zS out k_76 (out.length : Int)).bind fun l_84 => ((zz 64 l_82 l_84).bind fun l_85 => qE (fun out_24 => some (out_24, 0)) fuel m n l_85 ((i + 1 : Nat) : Int) g c)))))) q out 0
      rw [e, jx, qkB _ out _ j oa oa]
      exact new hk (fun h => absurd h (dF h0)) (by have := dF hy2; omega) (by have := dF hd2; omega) j hj k1 k2
  rw [decide_eq_false oa, cond_false]
  refine .pure fun _ => ⟨h4, fun p hp => ?_⟩
  obtain ⟨j, q', v', b1, b2, b3⟩ := h5 p hp
  exact ⟨j, q', v', b1, by omega, b3⟩
def yG (Pv : Int → Prop) (b : En) : Prop := za4 b ∧ ∀ p ∈ b, Pv p.1 ∧ ∀ x ∈ zP p.2, Pv x
theorem qCQ {Pv : Int → Prop} {M : Nat} (hM : M ≤ 1000000000) {fuel : Nat} {g : List Nd} {c : List Int} (hs : StG g c) (hk : Kd M g) (hg : GI Pv g) {out : En} (h1 : Sor out) (h2 : ∀ p ∈ out, Bnd fuel g c g.length p) : yG Pv out := by
 have good : ∀ p ∈ out, zF p.2 = true ∧ ∀ x ∈ zP p.2, zcc Pv g c x := fun p hp => by
  obtain ⟨i, q, v, b1, _, b3, b4, b5, b6, _⟩ := h2 p hp
  exact qti hM hs hk hg fuel v p.2 b6 ⟨i, q, b1, b5⟩
 refine ⟨⟨fun p hp => ?_, fun p hp => ?_, h1, fun p hp x hx => ?_⟩, fun p hp => ⟨?_, fun x hx => ((good p hp).2 x hx).1⟩⟩
 obtain ⟨i, q, v, _, _, _, _, _, _, b7, b8, _⟩ := h2 p hp
 have hf := (good p hp).1
 have := quV p.2 hf
 unfold zJ
 rw [hf, decide_eq_true oa, decide_eq_true b8]
 rfl
 obtain ⟨i, q, v, b1, _, b3, b4, _⟩ := h2 p hp
 have hf := ((hg.l q (qdB b1)).2.1 oa).1
 rw [b3, b4, qlP rfl] at hf
 have hf := of_decide_eq_true hf
 exact ⟨hf.1, hf.2.1⟩
 obtain ⟨_, j, q, w, r, f1, f2, f3, f4, f5, f6, f7⟩ := (good p hp).2 x hx
 cases hc : zx out x with
 | none => rfl
 | some u =>
  obtain ⟨i, q', v, b1, _, b3, b4, b5, _, _, _, b9⟩ := h2 _ (qnB hc)
  dsimp only at b4
  obtain rfl := hg.u i j q' q b1 f1 b3 f2 (b4.trans f3.symm)
  obtain rfl := Option.some.inj (b5.symm.trans f4)
  exact absurd (f7.trans (by rw [b4])) (b9 r f5 f6)
 obtain ⟨i, q, v, b1, _, b3, b4, _⟩ := h2 p hp
 rw [← b4]
 exact (hg.l q (qdB b1)).2.2 b3
theorem qts {Pv : Int → Prop} {Q : List (Int × T) × Int → Prop} (hno : Q ([], 13)) (b : List T) (fuel : Nat) (hf : 1500000000 < fuel) {M : Nat} (hM : M ≤ 300000000) (k : List Nd → List Int → BsR) (hk : ∀ g c, StG g c → Kd M g → GI Pv g → g.length ≤ 600000000 → Yl (k g c) Q) (hb : ∀ t ∈ b, yF t ∧ wt t ≤ M ∧ zF t = true ∧ ∀ v ∈ zP t, Pv v) :
 ∀ (l : List T) (i : Nat) (g : List Nd) (c : List Int), i + l.length = b.length → (∀ t ∈ l, yF t ∧ wt t ≤ M ∧ zF t = true ∧ ∀ v ∈ zP t, Pv v) → StG g c → Kd M g → zbA g → GI Pv g → g.length + wtL l + wtL (b.drop i) ≤ 600000000 → Yl (qF k b fuel l i g c) Q
 | [], i, g, c, _, _, hs, hkd, _, hgi, hw => by
  rw [qF]
  exact hk g c hs hkd hgi oa
 | t :: l, i, g, c, hi, ht, hs, hkd, hv, hgi, hw => by
  rw [jg] at hi
  obtain ⟨u, hu, hum⟩ := ye (l := b) (i := (i : Int)) oa oa
  have hd : b.drop i = u :: b.drop (i + 1) := by
   rw [qdl] at hu
   rw [j2 oa]
   rw [js oa] at hu
   rw [Option.some.inj hu]
  have hdrop : wtL (b.drop i) = wt u + wtL (b.drop (i + 1)) := by rw [hd, wtL]
  rw [wtL, hdrop] at hw
  obtain ⟨t1, t2, t3, t4⟩ := ht t (jc ..)
  obtain ⟨u1, u2, u3, u4⟩ := hb u hum
  obtain ⟨x, g1, c1, e1, E1, v1, _⟩ := qgQ fuel t g c t1 oa t2 hs hkd hv oa
  have G1 : GI Pv g1 := qve fuel t g c _ e1 t3 t4 hgi
  obtain ⟨s1, k1, m1, x0, x1⟩ := E1
  have hl1 := y6.le (M := M) (c := c) (c1 := c1) ⟨s1, k1, m1⟩
  obtain ⟨y, g2, c2, e2, E2, v2, _⟩ := qgQ fuel u g1 c1 u1 oa u2 s1 k1 v1 oa
  have G2 : GI Pv g2 := qve fuel u g1 c1 _ e2 u3 u4 G1
  obtain ⟨s2, k2, m2, y0, y1⟩ := E2
  have hl2 := y6.le (M := M) (c := c1) (c1 := c2) ⟨s2, k2, m2⟩
  have hc := qse c2
  have hcl := s2.len
  obtain ⟨ok, c3, e3, s3, _, _⟩ := qm5 (g := g2) oa fuel x y c2 s2 oa oa x0 oa y0 y1
  rw [qF, e1, ja, hu, ja]
  dsimp only
  rw [e2, ja]
  dsimp only
  rw [e3, ja]
  exact .cond (fun _ => .pure hno) fun _ => qts hno b fuel hf hM k hk hb l (i + 1) g2 c3 oa (fun t h => ht t (je _ h)) s3 k2 v2 G2 oa
theorem qDJ {Pv : Int → Prop} (fuel : Nat) (hf : 1500000000 < fuel) (a b : List T) (wa : wtL a ≤ 300000000) (wb : wtL b ≤ 300000000) (pa : ∀ x ∈ zo a, Pv x) (pb : ∀ x ∈ zo b, Pv x) : Yl (qaz fuel a b) fun r => r.2 = 0 → yG Pv r.1 := by
 unfold qaz
 refine qnK _ (fun x => Yl x fun r => r.2 = 0 → yG Pv r.1) (.pure fun h => absurd h (show ¬ (2 : Int) = 0 by omega)) a wa fun ha => qnJ _ (fun x => Yl x fun r => r.2 = 0 → yG Pv r.1) (.pure fun h => absurd h (show ¬ (2 : Int) = 0 by omega)) b wb fun hb => ?_
 refine .cond (fun _ => .pure fun h => absurd h (show ¬ (9 : Int) = 0 by omega)) fun hl => .bind (R := fun r => r.2 = 0 → yG Pv r.1) ?_ fun r hr => .pure hr
 have hl := bF hl
 unfold qbV
 refine qts (Pv := Pv) (fun h => absurd h (show ¬ (13 : Int) = 0 by omega)) (M := 300000000) b fuel hf (jn _) _ (fun g c hs hk hgi hg => ?_) (fun t ht => ⟨qfW (hb t ht), by have := qft ht; omega, (qe7 (hb t ht)).1, fun v hv => pb v (qo0 ht hv)⟩) a 0 [] [] oa (fun t ht => ⟨qfW (ha t ht), by have := qft ht; omega, (qe7 (ha t ht)).1, fun v hv => pa v (qo0 ht hv)⟩) ⟨rfl, fun v hv => by simp at hv, fun v hv => by simp at hv, fun q hq => by simp at hq⟩ (fun q hq => by simp at hq) (fun q hq => by simp at hq) ⟨fun q hq => (by cases hq), fun i j p q hi => absurd (qdB hi) og⟩ oe
 obtain ⟨m, ok, e, hok⟩ := qs8 (M := 300000000) oa oa hs hk fuel oa
 rw [e, ja]
 refine .cond (fun _ => .pure fun h => absurd h (show ¬ (13 : Int) = 0 by omega)) fun h => ?_
 exact (qt2 (M := 300000000) oa hs hgi.u fuel oa (m, ok) (hok (nF h)) fuel 0 [] oa oa og List.Pairwise.nil (fun p hp => by cases hp)).mono fun r hr h0 => qCQ (M := 300000000) oa hs hk hgi (hr h0).1 (hr h0).2
/-! ### layer 10 -/
theorem qtU : ∀ b : En, ∀ x ∈ zo (b.map fun q => T.mk 1 q.1 ⟨#[]⟩ []), ∃ q ∈ b, x = q.1
 | [], x, h => by simp [zo] at h
 | q :: b, x, h => by
  rw [jr, zo, qlS rfl] at h
  rcases jj.1 h with h | h
  exact ⟨q, jc .., ji.1 h⟩
  obtain ⟨p, hp, e⟩ := qtU b x h
  exact ⟨p, je _ hp, e⟩
theorem qBj {Pv : Int → Prop} (fuel : Nat) (hf : 1500000000 < fuel) {b : En} (hb : yG Pv b) (s t : T) (hs : wt s ≤ 1000000) (ht : wt t ≤ 1000000) (ps : ∀ x ∈ zP s, Pv x) (pt : ∀ x ∈ zP t, Pv x) : Yl (qb8 fuel b s t) fun r => r.2.2 = 0 → yG Pv r.1 := by
 have hl := hb.1.len
 have hbw : ∀ q ∈ b, wt q.2 ≤ 200 := fun q hq => (qe7 (hb.1.t q hq)).2
 have w1 := qoE b
 have w2 := qnk b hbw
 have wa := qCU fuel hf (s :: b.map fun q => T.mk 1 q.1 ⟨#[]⟩ []) (t :: b.map fun q => q.2) (by rw [wtL]; omega) (by rw [wtL]; omega)
 unfold qb8
 refine .bind (qnz fuel hf hb.1 hs ht) fun r hr => .cond (fun _ => .pure fun h => absurd h (show ¬ (2 : Int) = 0 by omega)) fun h => ?_
 rw [qug fuel b s t oa]
 obtain ⟨r0, e0, h0⟩ := qDJ (Pv := Pv) fuel hf (s :: b.map fun q => T.mk 1 q.1 ⟨#[]⟩ []) (t :: b.map fun q => q.2) (by rw [wtL]; omega) (by rw [wtL]; omega) (fun x hx => by
  rw [zo] at hx
  rcases jj.1 hx with hx | hx
  exact ps x hx
  obtain ⟨q, hq, rfl⟩ := qtU b x hx
  exact (hb.2 q hq).1) (fun x hx => by
  rw [zo] at hx
  rcases jj.1 hx with hx | hx
  exact pt x hx
  obtain ⟨u, hu, hx⟩ := qvR hx
  obtain ⟨q, hq, rfl⟩ := jq.1 hu
  exact (hb.2 q hq).2 x hx)
 obtain ⟨r1, e1, hlen⟩ := wa
 obtain rfl := Option.some.inj (e0.symm.trans e1)
 rw [e0, ja, ja]
 refine .cond (fun h1 => .pure fun h2 => absurd h2 (bT h1)) fun h1 => ?_
 have hlen := hlen.2
 unfold qc9
 exact .bind (qnd b r0.1 [] oe) fun _ _ => .pure fun _ => h0 (bF h1)
theorem qAx {Pv : Int → Prop} (fuel : Nat) (hf : 1500000000 < fuel) {b : En} (hb : yG Pv b) (s t : T) (hs : wt s ≤ 200) (ht : wt t ≤ 200) (ps : ∀ x ∈ zP s, Pv x) : Yl (qcT fuel b s t) fun r => r.2.2 = 0 → yG Pv r.1 := by
 have hbw : ∀ q ∈ b, wt q.2 ≤ 200 := fun q hq => (qe7 (hb.1.t q hq)).2
 unfold qcT
 refine .bind (qnz fuel hf hb.1 oa oa) fun r hr => .cond (fun _ => .pure fun h => absurd h (show ¬ (2 : Int) = 0 by omega)) fun h => ?_
 rw [qwh b fuel t oa oa, ja]
 have hw := qBB oa hbw t
 have hw2 : wt t * 200 ≤ 200 * 200 := jK _ ht
 obtain ⟨e, he⟩ := qmy fuel (apT b t) oa
 rw [he, ja]
 refine .cond (fun h1 => .pure fun h2 => absurd h2 (bT h1)) fun _ => .bind (qBj fuel hf hb s _ oa (by rw [wt, wtL]; omega) ps (fun x hx => by rw [qrB (by simp [T.k]) (by simp [T.k])] at hx; cases hx)) fun r hr => .pure hr
theorem qy3 {Pv : Int → Prop} (fuel : Nat) (hf : 1500000000 < fuel) {b : En} (hb : yG Pv b) (g : Gl) (hg : zn g = true) (h0 : g.op ≠ 0) (h4 : g.op ≤ 4) (hp : ∀ v ∈ zo g.ts, Pv v) : Yl (qcF fuel b g) fun r => r.2.2 = 0 → yG Pv r.1 := by
 unfold qcF
 refine .cond (fun _ => .pure fun _ => hb) fun h1 => .cond (fun _ => .pure fun h => absurd h (show ¬ (13 : Int) = 0 by omega)) fun h2 => ?_
 have h1 := eF h1
 have h2 := eF h2
 have hop := qnv hg
 obtain ⟨s, t, e, hs, ht⟩ := qvC hg oa
 have g0 : zh g.ts 0 = some s := by rw [e]; rfl
 have g1 : zh g.ts 1 = some t := by rw [e]; rfl
 have ps : ∀ x ∈ zP s, Pv x := fun x hx => hp x (by rw [e]; exact qo0 (jc ..) hx)
 have pt : ∀ x ∈ zP t, Pv x := fun x hx => hp x (by rw [e]; exact qo0 (je _ (jc ..)) hx)
 refine .cond (fun h3 => ?_) fun h3 => ?_
 rw [g0, ja, g1, ja]
 exact .bind (qBj fuel hf hb s t oa oa ps pt) fun r hr => .pure hr
 rw [g0, ja, g1, ja]
 refine .bind (qAx fuel hf hb s t hs ht ps) fun r hr => .cond (fun _ => .pure hr) fun h => .cond (fun h6 => .pure fun h => ?_) fun _ => .pure fun h => absurd h (show ¬ (13 : Int) = 0 by omega)
 have := eT h6
 dsimp only at h
 omega
theorem qDg {α : Type} {l : List α} (h0 : (l.length : Int) ≠ 0) (hl : l.length ≤ 1000000000) : ∃ pre f, l = pre ++ [f] ∧ zh l (wr ((l.length : Int) - 1)) = some f ∧ zS l 0 (wr ((l.length : Int) - 1)) = some pre := by
 have hd : l ≠ [] := fun e => h0 (by rw [e]; rfl)
 have hp := List.length_pos_iff.2 hd
 refine ⟨l.dropLast, l.getLast hd, (List.dropLast_concat_getLast hd).symm, ?_, ?_⟩
 rw [qgI oa, show (l.length : Int) - 1 = ((l.length - 1 : Nat) : Int) by omega, qdl, List.getLast_eq_getElem]
 exact js _
 rw [qgI oa]
 unfold zS
 rw [if_pos oa, show ((l.length : Int) - 1).toNat = l.length - 1 by omega, List.dropLast_eq_take]
 rfl
theorem qoQ {n : Nat} (h : n ≤ 1000000000) : yS (wr ((n : Int) - 1)) = some n := by
 rw [qgI oa]
 unfold yS
 rw [if_pos oa, show ((n : Int) - 1 + 1).toNat = n by omega]
/-! ### layer 16 -/
def zbL (i : Nat) (r : qk) : Nat → List qt
 | 0 => []
 | k + 1 => ⟨(i : Int), (k : Int), decide ((k : Int) < (r.fg.length : Int))⟩ :: zbL i r k
def zab : List qk → Nat → List qt
 | [], _ => []
 | r :: rs, i => zbL i r (r.fg.length + r.ft.length) ++ zab rs (i + 1)
theorem qsb (i : Nat) (r : qk) : ∀ k, (zbL i r k).length = k
 | 0 => rfl
 | k + 1 => by rw [zbL, jg, qsb i r k]
theorem qBc (k : List qt → Option (List qt)) (i : Nat) (r : qk) : ∀ (n : Nat) (out : List qt), out.length + n ≤ 1000000000 → qa4 k i r n out = k (out ++ zbL i r n)
 | 0, out, _ => by rw [qa4, zbL, jv]
 | n + 1, out, h => by
  rw [qa4, qfo oa (n := n) oa, ja, qBc k i r n _ (by rw [jb, jl]; omega), zbL, jk]
  rfl
theorem qBl (k : List qt → Option (List qt)) : ∀ (rs : List qk) (out : List qt) (i : Nat), (∀ r ∈ rs, yz r) → out.length + 4 * rs.length ≤ 1000000000 → qa7 k rs out i = k (out ++ zab rs i)
 | [], out, i, _, _ => by rw [qa7, zab, jv]
 | r :: rs, out, i, hr, h => by
  rw [jg] at h
  have h4 := (hr r (jc ..)).h4
  rw [jb] at h4
  have hl := qsb i r (r.fg.length + r.ft.length)
  rw [qa7, qgI (n := (r.fg.length : Int) + r.ft.length) oa, show (r.fg.length : Int) + (r.ft.length : Int) = ((r.fg.length + r.ft.length : Nat) : Int) by omega, qoQ oa, ja, qBc _ i r _ out oa, qBl k rs _ (i + 1) (fun x hx => hr x (je _ hx)) (by rw [jb]; omega), zab, jk]
theorem qyV {p : qc} (hp : zW p) : qc2 p = some (zab p.fc 0) := by
 have := hp.l
 unfold qc2
 rw [qBl _ _ [] 0 hp.r oe, jp]
def zar (p : qc) (o : qt) (r : qk) (h : At) : Prop := zh p.fc o.fy = some r ∧ zh (r.fg ++ r.ft) o.fG = some h ∧ o.fI = decide (o.fG < (r.fg.length : Int))
theorem qzd (i : Nat) (r : qk) : ∀ (k : Nat), k ≤ r.fg.length + r.ft.length → ∀ o ∈ zbL i r k, o.fy = (i : Int) ∧ (∃ h, zh (r.fg ++ r.ft) o.fG = some h) ∧ o.fI = decide (o.fG < (r.fg.length : Int))
 | 0, _, o, ho => by cases ho
 | k + 1, hk, o, ho => by
  rw [zbL] at ho
  rcases jh.1 ho with rfl | ho
  obtain ⟨h, hh, _⟩ := ye (l := r.fg ++ r.ft) (i := (k : Int)) oa (by rw [jb]; omega)
  exact ⟨rfl, ⟨h, hh⟩, rfl⟩
  exact qzd i r k oa o ho
theorem qx3 {all : List qk} : ∀ (rs done : List qk), all = done ++ rs → ∀ o ∈ zab rs done.length, ∃ r h, zh all o.fy = some r ∧ zh (r.fg ++ r.ft) o.fG = some h ∧ o.fI = decide (o.fG < (r.fg.length : Int))
 | [], _, _, o, ho => by cases ho
 | r :: rs, done, he, o, ho => by
  rw [zab] at ho
  rcases jj.1 ho with ho | ho
  obtain ⟨h1, ⟨h, h2⟩, h3⟩ := qzd _ r _ (jn _) o ho
  refine ⟨r, h, ?_, h2, h3⟩
  rw [h1, he]
  exact qys
  exact qx3 rs (done ++ [r]) (by rw [he, jk]; rfl) o (by rw [jb, jl]; exact ho)
theorem qyd {p : qc} {o : qt} (h : o ∈ zab p.fc 0) : ∃ r h, zar p o r h := qx3 p.fc [] rfl o h
theorem qoK : ∀ (rs : List qk) (i : Nat), (∀ r ∈ rs, yz r) → (zab rs i).length ≤ 4 * rs.length
 | [], i, _ => by simp [zab]
 | r :: rs, i, h => by
  have h4 := (h r (jc ..)).h4
  have := qoK rs (i + 1) fun x hx => h x (je _ hx)
  rw [jb] at h4
  rw [zab, jb, qsb, jg]
  omega
def yK (p : qc) (name : ByteArray) (n : Int) (o : qt) : Bool := match (zh p.fc o.fy).bind fun r => zh (r.fg ++ r.ft) o.fG with
 | some h => (h.n.toList == name.toList) && ((h.ts.length : Int) == n)
 | none => false
theorem qC7 {p : qc} (hp : zW p) (name : ByteArray) (n : Int) : ∀ (l out : List qt), (∀ o ∈ l, ∃ r h, zar p o r h) → out.length + l.length ≤ 1000000000 → qaB (fun o => some o) n name p l out = some (out ++ l.filter (yK p name n))
 | [], out, _, _ => by rw [qaB, List.filter_nil, jv]
 | o :: l, out, ho, hl => by
  rw [jg] at hl
  obtain ⟨r, h, h1, h2, h3⟩ := ho o (jc ..)
  have h4 := (hp.r r (qdB h1)).h4
  rw [jb] at h4
  have next := fun out hl => qC7 hp name n l out (fun x hx => ho x (je _ hx)) hl
  rw [qaB, h1, ja, qhQ oa, ja, h2, ja]
  have hi : yK p name n o = ((h.n.toList == name.toList) && ((h.ts.length : Int) == n)) := by
   unfold yK
   rw [h1, ja, h2]
  cases e1 : (h.n.toList == name.toList) with
  | false =>
   rw [cond_false, next out oa, Jh (by rw [hi, e1]; simp)]
  | true =>
   rw [cond_true]
   cases e2 : ((h.ts.length : Int) == n) with
   | false => rw [cond_false, next out oa, Jh (by rw [hi, e1, e2]; simp)]
   | true =>
    rw [cond_true, qfo oa (n := l.length) oa, ja, next _ (by rw [jb, jl]; omega), List.filter_cons_of_pos (by rw [hi, e1, e2]; rfl), jk]
    rfl
theorem qCJ {p : qc} (hp : zW p) (name : ByteArray) (n : Int) : qdY p name n = some ((zab p.fc 0).filter (yK p name n)) := by
 have := hp.l
 have h2 := qoK p.fc 0 hp.r
 unfold qdY
 rw [qyV hp, ja, qC7 hp name n _ [] (fun o h => qyd h) oe, jp]
theorem qAq {p : qc} {name : ByteArray} {n : Int} {o : qt} {r : qk} {h : At} (ho : zar p o r h) (hi : yK p name n o = true) : h.n = name ∧ (h.ts.length : Int) = n := by
 unfold yK at hi
 rw [ho.1, ja, ho.2.1] at hi
 simp only [jm] at hi
 exact ⟨sT hi.1, eT hi.2⟩
/-! ### layer 26: valid states -/
structure yp (p : qc) (c : qd) : Prop where
 pr : zW p
 sd : zau c.fj c.fu c.fC c.fA c.fz
 sl : c.fb.length ≤ 1000
 f : ∀ f ∈ c.fb, f.fd = 0 → zn f.fk = true ∧ f.fk.op ≤ 4 ∧ ∀ v ∈ zo f.fk.ts, zx c.fu v = none
 w : ∀ f ∈ c.fb, wtL f.fk.ts ≤ 200
structure BkC (c : qd) : Prop where
 g : ∀ f ∈ c.fb, wtL f.fk.ts ≤ 1000000000
 st : ∀ q ∈ c.fj, wtL q.2.ts ≤ 1000000000
 b : ∀ q ∈ c.fu, wt q.2 ≤ 1000000000
 bl : c.fu.length ≤ 9000000000000000000
theorem qAy (g : Gl) : Yl (qdR g) fun b => b = true → g.ts.length = 0 := by
 unfold qdR
 refine .cond (fun _ => .cond (fun _ => .pure fun h => ?_) fun _ => .pure fun h => by cases h) fun _ => .pure fun h => by cases h
 have := eT h
 omega
theorem qry (fuel : Nat) (hf : 1000000000 < fuel) (p : qc) (c : qd) (all : List qt) : ∀ l : List qn, (∀ f ∈ l, wtL f.fk.ts ≤ 1000000000) → Yl (qam (some true) c fuel p all l) fun b => b = true → (∀ f ∈ l, f.fd = 0 → zn f.fk = true ∧ f.fk.op ≤ 4 ∧ ∀ v ∈ zo f.fk.ts, zx c.fu v = none) ∧ ∀ f ∈ l, wtL f.fk.ts ≤ 200
 | [], _ => by rw [qam]; exact .pure fun _ => ⟨fun f h => (by cases h), fun f h => by cases h⟩
 | f :: l, hw => by
  have hf' := hw f (jc ..)
  have next := fun (h1 : f.fd = 0 → zn f.fk = true ∧ f.fk.op ≤ 4 ∧ ∀ v ∈ zo f.fk.ts, zx c.fu v = none) (h2 : wtL f.fk.ts ≤ 200) => (qry fuel hf p c all l fun x hx => hw x (je _ hx)).mono fun b hb hbt => show (∀ x ∈ f :: l, x.fd = 0 → zn x.fk = true ∧ x.fk.op ≤ 4 ∧ ∀ v ∈ zo x.fk.ts, zx c.fu v = none) ∧ ∀ x ∈ f :: l, wtL x.fk.ts ≤ 200 from ⟨fun x hx => (jh.1 hx).elim (fun e => e ▸ h1) ((hb hbt).1 x), fun x hx => (jh.1 hx).elim (fun e => e ▸ h2) ((hb hbt).2 x)⟩
  rw [qam]
  refine .cond (fun h0 => .cond (fun _ => .pure fun h => by cases h) fun _ => .bind (qAp p _ hf') fun r1 h1 => .cond (fun _ => .pure fun h => by cases h) fun e1 => .bind (qAM fuel hf _ hf' _ _) fun r2 h2 => .cond (fun _ => .pure fun h => by cases h) fun e2 => ?_) fun h0 => .cond (fun _ => .pure fun h => by cases h) fun _ => .cond (fun _ => .pure fun h => by cases h) fun _ => .bind (qAy _) fun r3 h3 => .cond (fun _ => .pure fun h => by cases h) fun e3 => .cond (fun _ => .pure fun h => by cases h) fun _ => .cond (fun _ => .pure fun h => by cases h) fun _ => ?_
  · have a := h1 (nF e1)
    exact next (fun _ => ⟨a.1, a.2, h2 (nF e2)⟩) (qe8 a.1).2
  · refine next (fun h => absurd h (eF h0)) ?_
    rw [jz (h3 (nF e3)), wtL]
    omega
theorem qru (fuel : Nat) (hf : 1000000000 < fuel) (p : qc) (hp : BkP p) (c : qd) (hc : BkC c) : Yl (qbU fuel p c) fun b => b = true → yp p c := by
 unfold qbU
 refine .bind (qy6 fuel hf p hp) fun r1 h1 => .cond (fun _ => .pure fun h => by cases h) fun e1 => .cond (fun _ => .pure fun h => by cases h) fun e2 => ?_
 have pr := h1 (bF e1)
 have e2 := dF e2
 refine .bind (qzp fuel hf pr _ _ _ _ _ hc.st hc.bl hc.b) fun r4 h4 => .cond (fun _ => .pure fun h => by cases h) fun e4 => ?_
 have sd := h4 (nF e4)
 rw [qyV pr, ja]
 exact (qry fuel hf p c _ _ hc.g).mono fun b hb h => ⟨pr, sd, by omega, (hb h).1, (hb h).2⟩
theorem yp.bk {p : qc} {c : qd} (h : yp p c) : BkC c := by
 have := h.sd.bd.len
 exact ⟨fun f hf => by have := h.w f hf; omega, fun q hq => by have := (qeC (h.sd.st.a q hq)).2.1; omega, fun q hq => by have := (qe7 (h.sd.bd.t q hq)).2; omega, by omega⟩
theorem yp.sw {p : qc} {s : qd} (h : yp p s) : ∀ q ∈ s.fj, wtL q.2.ts ≤ 200 := fun q hq => (qeC (h.sd.st.a q hq)).2.1
theorem yp.bw {p : qc} {s : qd} (h : yp p s) : ∀ q ∈ s.fu, wt q.2 ≤ 200 := fun q hq => (qe7 (h.sd.bd.t q hq)).2
/-! ### events -/
theorem qBC (l : List Int) (head id : Int) (h0 : 0 ≤ head) : Yl (qeI l head id) fun b => b = true ↔ zh l head = some id := by
 unfold qeI
 refine .cond (fun h => ?_) fun h => .pure ⟨fun h => (by cases h), fun e => absurd (qhd e).2.1 (by have := dF h; omega)⟩
 obtain ⟨x, hx, _⟩ := ye (l := l) (i := head) h0 (dT h)
 rw [hx, ja]
 exact .pure ⟨fun h => by rw [eT h], fun h => by rw [Option.some.inj h]; simp⟩
theorem qsf (f : qn) (kind : Int) (o : qt) (h0 : 0 ≤ o.fG) : ∀ (l : List (List Int)) (out : List qw), out.length + l.length ≤ 100000000000 → Yl (qaw (fun o => some o) f kind o l out) fun r => ∃ more, r = out ++ more ∧ more.length ≤ l.length ∧ (∀ e ∈ more, ∃ x ∈ l, zh x o.fG = some f.fd ∧ e = ⟨kind, f.fd, f.fq, o.fy, x⟩) ∧ ∀ x ∈ l, zh x o.fG = some f.fd → more ≠ []
 | [], out, _ => by
  rw [qaw]
  exact .pure ⟨[], by simp, jn _, fun e h => (by cases h), fun x h => (by cases h)⟩
 | x :: l, out, h => by
  rw [jg] at h
  rw [qaw]
  refine .bind (qBC x o.fG f.fd h0) fun b hb => .cond (fun hb' => ?_) fun hb' => ?_
  rw [qB1 oa (n := l.length) oa, ja]
  refine (qsf f kind o h0 l _ (by rw [jb, jl]; omega)).mono fun r hr => ?_
  obtain ⟨more, e, h1, h2, _⟩ := hr
  refine ⟨_ :: more, by rw [e, jk]; rfl, by rw [jg, jg]; omega, fun e he => ?_, fun y _ _ => by simp⟩
  rcases jh.1 he with rfl | he
  exact ⟨x, jc .., hb.1 hb', rfl⟩
  obtain ⟨y, hy, h3⟩ := h2 e he
  exact ⟨y, je _ hy, h3⟩
  refine (qsf f kind o h0 l out oa).mono fun r hr => ?_
  obtain ⟨more, e, h1, h2, h3⟩ := hr
  refine ⟨more, e, by rw [jg]; omega, fun e he => ?_, fun y hy hyw => ?_⟩
  obtain ⟨y, hy, h4⟩ := h2 e he
  exact ⟨y, je _ hy, h4⟩
  rcases jh.1 hy with rfl | hy
  exact absurd (hb.2 hyw) (by rw [hb']; simp)
  exact h3 y hy hyw
noncomputable abbrev chs (fuel : Nat) (p : qc) (c : qd) (rule : Int) : Option (List (List Int)) := qcK fuel p c.fj c.fu [] c.fC rule
theorem qAD (fuel : Nat) (hf : 1500000000 < fuel) {p : qc} {c : qd} (hc : yp p c) (o : qt) (r : qk) (h : At) (ho : zar p o r h) (f : qn) : ∃ ch, chs fuel p c o.fy = some ch ∧ (∀ x ∈ ch, ∃ env, q7 fuel p c.fj c.fu [] c.fC o.fy x = some (env, true) ∧ zag c.fj r x env) ∧ Yl (qdZ fuel p c o f) fun l => l.length ≤ 62500000000 ∧ (∀ e ∈ l, ∃ x ∈ ch, zh x o.fG = some f.fd ∧ e = ⟨if o.fI then 5 else 4, f.fd, f.fq, o.fy, x⟩) ∧ (l = [] → ∀ x ∈ ch, zh x o.fG ≠ some f.fd) := by
 obtain ⟨ch, e, h1, h2⟩ := qw6 fuel hf hc.pr hc.sd.st.n hc.sw hc.bw [] (fun g h => by cases h) c.fC o.fy r ho.1
 refine ⟨ch, e, h2, ?_⟩
 have h0 := (qhd ho.2.1).1
 unfold qdZ qd9
 rw [e, ja]
 have main : ∀ kind : Int, Yl (qaw (fun o => some o) f kind o ch []) fun l => l.length ≤ 62500000000 ∧ (∀ e ∈ l, ∃ x ∈ ch, zh x o.fG = some f.fd ∧ e = ⟨kind, f.fd, f.fq, o.fy, x⟩) ∧ (l = [] → ∀ x ∈ ch, zh x o.fG ≠ some f.fd) := fun kind => by
  refine (qsf f kind o h0 ch [] oe).mono fun l hl => ?_
  obtain ⟨more, e, h3, h4, h5⟩ := hl
  rw [jp] at e
  subst e
  exact ⟨by omega, h4, fun h x hx hw => h5 x hx hw h⟩
 refine .cond (fun hk => ?_) fun hk => ?_
 rw [hk]
 exact main 5
 rw [hk]
 exact main 4
inductive zby (fuel : Nat) (p : qc) (c : qd) (pre : List qn) (f : qn) (e : qw) : Prop
 | solve : e.fa = 1 → f.fd = 0 → f.fk.op ≠ 0 → zby fuel p c pre f e
 | act : e.fa = 2 → f.fd = 0 → f.fk.op = 0 → e.fd = c.fA → zby fuel p c pre f e
 | gone : e.fa = 7 → f.fd ≠ 0 → (∀ a, (f.fd, a) ∉ c.fj) → zby fuel p c pre f e
 | last (a : At) : e.fa = 7 → f.fd ≠ 0 → (f.fd, a) ∈ c.fj → (((zab p.fc 0).filter (yK p a.n (a.ts.length : Int))).length : Int) ≤ f.fq → zby fuel p c pre f e
 | re : e.fa = 3 → f.fd ≠ 0 → zby fuel p c pre f e
 | dflt (a : At) (o : qt) (r : qk) (h : At) (ch : List (List Int)) : e.fa = 6 → f.fd ≠ 0 → (f.fd, a) ∈ c.fj → 0 ≤ f.fq → zh ((zab p.fc 0).filter (yK p a.n (a.ts.length : Int))) f.fq = some o → zar p o r h → chs fuel p c o.fy = some ch → (∀ x ∈ ch, zh x o.fG ≠ some f.fd) → zby fuel p c pre f e
 | app (a : At) (o : qt) (r : qk) (h : At) (env : En) : (e.fa = 4 ∧ o.fI = false ∨ e.fa = 5 ∧ o.fI = true) → f.fd ≠ 0 → (f.fd, a) ∈ c.fj → 0 ≤ f.fq → zh ((zab p.fc 0).filter (yK p a.n (a.ts.length : Int))) f.fq = some o → zar p o r h → e.fJ = o.fy → zh e.fD o.fG = some f.fd → q7 fuel p c.fj c.fu [] c.fC e.fJ e.fD = some (env, true) → zag c.fj r e.fD env → zby fuel p c pre f e
theorem qoI (id : Int) : ∀ l : List (Int × At), Yl (qaV (some ((⟨⟨#[]⟩, []⟩ : At), false)) id l) fun r => (r.2 = true → (id, r.1) ∈ l) ∧ (r.2 = false → ∀ a, (id, a) ∉ l)
 | [] => by rw [qaV]; exact .pure ⟨fun h => (by cases h), fun _ a h => by cases h⟩
 | q :: l => by
  rw [qaV]
  refine .cond (fun h => .pure ⟨fun _ => ?_, fun h => by cases h⟩) fun h1 => (qoI id l).mono fun r hr => ⟨fun h => je _ (hr.1 h), fun h a ha => ?_⟩
  rw [← eT h]
  exact jc ..
  rcases jh.1 ha with rfl | ha
  exact eF h1 rfl
  exact hr.2 h a ha
theorem qpM (fuel : Nat) (hf : 1500000000 < fuel) {p : qc} (hp : BkP p) {c : qd} (hc : BkC c) : ∃ b, qbU fuel p c = some b ∧ (b = true → yp p c) ∧ Yl (qbs fuel p c) fun l => l.length ≤ 100000000000 ∧ (l = [] → b = false ∨ c.fF = true ∨ c.fb = []) ∧ ∀ e l', l = e :: l' → yp p c ∧ c.fF = false ∧ ∃ pre f, c.fb = pre ++ [f] ∧ zh c.fb (wr ((c.fb.length : Int) - 1)) = some f ∧ zS c.fb 0 (wr ((c.fb.length : Int) - 1)) = some pre ∧ zby fuel p c pre f e := by
 obtain ⟨b, eb, hb⟩ := qru fuel oa p hp c hc
 refine ⟨b, eb, hb, ?_⟩
 have none_ : ∀ (Q : Prop), Q → Yl (some ([] : List qw)) fun l => l.length ≤ 100000000000 ∧ (l = [] → Q) ∧ ∀ e l', l = e :: l' → yp p c ∧ c.fF = false ∧ ∃ pre f, c.fb = pre ++ [f] ∧ zh c.fb (wr ((c.fb.length : Int) - 1)) = some f ∧ zS c.fb 0 (wr ((c.fb.length : Int) - 1)) = some pre ∧ zby fuel p c pre f e := fun Q hq => .pure ⟨by simp, fun _ => hq, fun e l' h => by cases h⟩
 unfold qbs
 rw [eb, ja]
 refine .cond (fun h => none_ _ (.inl (nT h))) fun h1 => .cond (fun h => none_ _ (.inr (.inl h))) fun h2 => .cond (fun h => none_ _ (.inr (.inr ?_))) fun h3 => ?_
 exact jz (by have := eT h; omega)
 have ok := hb (nF h1)
 have hsl := ok.sl
 obtain ⟨pre, f, es, eg, ss⟩ := qDg (l := c.fb) (eF h3) oa
 rw [eg, ja]
 have one : ∀ e : qw, zby fuel p c pre f e → Yl (some [e]) fun l => l.length ≤ 100000000000 ∧ (l = [] → b = false ∨ c.fF = true ∨ c.fb = []) ∧ ∀ e l', l = e :: l' → yp p c ∧ c.fF = false ∧ ∃ pre f, c.fb = pre ++ [f] ∧ zh c.fb (wr ((c.fb.length : Int) - 1)) = some f ∧ zS c.fb 0 (wr ((c.fb.length : Int) - 1)) = some pre ∧ zby fuel p c pre f e := fun e he => .pure ⟨by simp, fun h => (by cases h), fun e' l' h => by
  cases h
  exact ⟨ok, h2, pre, f, es, eg, ss, he⟩⟩
 rw [eg] at one
 refine .cond (fun h0 => .cond (fun h4 => one _ (.solve rfl (eT h0) (bT h4))) fun h4 => one _ (.act rfl (eT h0) (bF h4) rfl)) fun h0 => ?_
 have h0 := eF h0
 refine .bind (qoI f.fd c.fj) fun r hr => .cond (fun h4 => one _ (.gone rfl h0 (hr.2 (nT h4)))) fun h4 => ?_
 have ha := hr.1 (nF h4)
 refine .cond (fun h5 => one _ (.re rfl h0)) fun h5 => ?_
 have h5 := dF h5
 rw [qCJ ok.pr, ja]
 refine .cond (fun h6 => one _ (.last r.1 rfl h0 ha (dT h6))) fun h6 => ?_
 have h6 := dF h6
 obtain ⟨o, eo, hm⟩ := ye (l := (zab p.fc 0).filter (yK p r.1.n (r.1.ts.length : Int))) (i := f.fq) oa oa
 obtain ⟨rl, hd, ho⟩ := qyd (jR.1 hm).1
 rw [eo, ja]
 obtain ⟨ch, ech, hch, hr⟩ := qAD fuel hf ok o rl hd ho f
 refine .bind hr fun l hl => .cond (fun h7 => ?_) fun h7 => ?_
 have : l = [] := jz (by have := eT h7; omega)
 subst this
 rw [qfo oa (n := 0) og, ja]
 exact one _ (.dflt r.1 o rl hd ch rfl h0 ha oa eo ho ech (hl.2.2 rfl))
 refine .pure ⟨by omega, fun h => absurd (by rw [h]; rfl) (eF h7), fun e l' h => ?_⟩
 obtain ⟨x, hx, hw, rfl⟩ := hl.2.1 e (by rw [h]; exact jc ..)
 obtain ⟨env, ee, he⟩ := hch x hx
 refine ⟨ok, h2, pre, f, es, rfl, ss, .app r.1 o rl hd env ?_ h0 ha oa eo ho rfl hw ee he⟩
 cases hk : o.fI with
 | true => exact .inr ⟨by simp, rfl⟩
 | false => exact .inl ⟨by simp, rfl⟩
theorem qB6 (fuel : Nat) (hf : 1500000000 < fuel) {p : qc} (hp : BkP p) {c : qd} (hc : BkC c) : Yl (qeL fuel p c) fun r => (r.2 = true → ∃ l', qbs fuel p c = some (r.1 :: l')) ∧ (r.2 = false → qbs fuel p c = some []) := by
 obtain ⟨b, _, _, l, el, _⟩ := qpM fuel hf hp hc
 unfold qeL
 rw [el, ja]
 refine .cond (fun h => .pure ⟨fun h => (by cases h), fun _ => ?_⟩) fun h => ?_
 rw [jz (l := l) (by have := eT h; omega)]
 cases l with
 | nil => exact absurd rfl (eF h)
 | cons e l => exact .pure ⟨fun _ => ⟨l, rfl⟩, fun h => by cases h⟩
theorem qvE (b : qw) : ∀ (l : List Int) (i : Nat), i + l.length = b.fD.length → Yl (qbd (some true) b l i) fun r => b.fD.drop i = l → r = true
 | [], i, _ => by rw [qbd]; exact .pure fun _ => rfl
 | x :: l, i, h => by
  rw [jg] at h
  obtain ⟨y, hy, _⟩ := ye (l := b.fD) (i := (i : Int)) oa oa
  rw [qbd, hy, ja]
  rw [qdl] at hy
  have hd : b.fD.drop i = y :: b.fD.drop (i + 1) := by
   rw [j2 oa]
   rw [js oa] at hy
   rw [Option.some.inj hy]
  refine .cond (fun h1 => .pure fun h2 => ?_) fun _ => (qvE b l (i + 1) oa).mono fun r hr h2 => hr ?_
  rw [hd] at h2
  exact absurd (List.cons.inj h2).1.symm (bT h1)
  rw [hd] at h2
  exact (List.cons.inj h2).2
theorem qww (a b : qw) : Yl (qdH a b) fun r => a = b → r = true := by
 unfold qdH
 refine .cond (fun h => .pure fun e => absurd (by rw [e]) (bT h)) fun _ => .cond (fun h => .pure fun e => absurd (by rw [e]) (bT h)) fun _ => .cond (fun h => .pure fun e => absurd (by rw [e]) (bT h)) fun _ => .cond (fun h => .pure fun e => absurd (by rw [e]) (bT h)) fun _ => .cond (fun h => .pure fun e => absurd (by rw [e]) (bT h)) fun h => ?_
 exact (qvE b a.fD 0 (by have := bF h; omega)).mono fun r hr e => hr (by rw [e]; rfl)
theorem qu6 {k : Bool → Option (qd × Int)} {Q : qd × Int → Prop} (e : qw) (hk : Yl (k true) Q) : ∀ l : List qw, Yl (qbC k e l true) Q
 | [] => by rw [qbC]; exact hk
 | x :: l => by
  rw [qbC]
  exact .bind (qww x e) fun _ _ => .cond (fun _ => qu6 e hk l) fun _ => qu6 e hk l
theorem qnl (l : List qn) (f : qn) (hl : l.length ≤ 1000000000) : qaR l f = some (l ++ [f]) := by
 rw [qaR, qnY oa hl, ja, qfo oa (n := 0) oa, ja]
/-! ### layer 22 -/
theorem qum (n : Int) : ∀ l : List Int, Yl (qch (some false) n l) fun _ => True
 | [] => by rw [qch]; exact .pure trivial
 | x :: l => by rw [qch]; exact .cond (fun _ => .pure trivial) fun _ => qum n l
theorem qBa {k : Int → Option (List Int)} {Q : List Int → Prop} (q : Int × At) (N : Nat) (hk : ∀ j : Nat, j ≤ N → Yl (k (j : Int)) Q) : ∀ (l : List Int) (i : Nat), i + l.length ≤ N → Yl (qbm k q l i) Q
 | [], i, h => by rw [qbm]; exact hk i (by simpa using h)
 | x :: l, i, h => by
  rw [jg] at h
  rw [qbm]
  exact .cond (fun _ => qBa q N hk l (i + 1) oa) fun _ => hk i oa
theorem qzB {k : Bool → Option (List Int)} {Q : List Int → Prop} (hk : ∀ b, Yl (k b) Q) (vars : List Int) : ∀ (l : List Int) (b : Bool), Yl (qaW k vars l b) Q
 | [], b => by rw [qaW]; exact hk b
 | x :: l, b => by
  rw [qaW]
  exact .cond (fun _ => qzB hk vars l true) fun _ => .bind (qum x vars) fun r _ => qzB hk vars l r
theorem qA4 (fuel : Nat) (hf : 1000000000 < fuel) (vars : List Int) (S : List (Int × At)) : ∀ (l : List (Int × At)) (out : List Int), (∀ q ∈ l, wtL q.2.ts ≤ 200 ∧ q ∈ S) → (∀ x ∈ out, ∃ a, (x, a) ∈ S) → out.length + l.length ≤ 1000000000 → Yl (qay (fun o => some o) fuel vars l out) fun r => (∀ x ∈ r, ∃ a, (x, a) ∈ S) ∧ r.length ≤ out.length + l.length
 | [], out, _, ho, _ => by rw [qay]; exact .pure ⟨ho, by simp⟩
 | q :: l, out, hw, ho, hl => by
  rw [jg] at hl ⊢
  have hq := hw q (jc ..)
  have next := fun out ho hl => qA4 fuel hf vars S l out (fun x hx => hw x (je _ hx)) ho hl
  rw [qay]
  unfold qcx
  rw [qiI fuel q.2.ts oa oa, ja, ja]
  refine qzB (fun b => .cond (fun _ => (next out ho oa).mono fun r hr => ⟨hr.1, by omega⟩) fun _ => .bind (qum q.1 out) fun r _ => .cond (fun _ => (next out ho oa).mono fun r hr => ⟨hr.1, by omega⟩) fun _ => ?_) vars _ false
  refine qBa q out.length (fun j hj => ?_) out 0 oa
  have s1 : zS out 0 (j : Int) = some (out.take j) := by
   unfold zS
   rw [if_pos oa]
   simp
  have s2 : zS out (j : Int) (out.length : Int) = some (out.drop j) := by
   unfold zS
   rw [if_pos oa]
   simp
  rw [s1, ja, qnY oa oe, ja, qfo oa (n := 0) oe, ja, s2, ja, ql9 oa oe, ja]
  refine (next _ (fun x hx => ?_) oe).mono fun r hr => ⟨hr.1, by have := hr.2; simp at this; omega⟩
  simp only [jj, ji] at hx
  rcases hx with (hx | hx) | hx
  exact ho x (j4 hx)
  rw [hx]
  exact ⟨q.2, hq.2⟩
  exact ho x (jW hx)
theorem qDC (fuel : Nat) (hf : 1000000000 < fuel) (l : List (Int × At)) (hl : l.length ≤ 1000000) (hw : ∀ q ∈ l, wtL q.2.ts ≤ 200) (vars : List Int) : Yl (qdV fuel l vars) fun r => (∀ x ∈ r, ∃ a, (x, a) ∈ l) ∧ r.length ≤ l.length := by
 unfold qdV
 exact (qA4 fuel hf vars l l [] (fun q hq => ⟨hw q hq, hq⟩) (fun x h => by cases h) oe).mono fun r hr => ⟨hr.1, by simpa using hr.2⟩
/-! ### a built-in goal -/
def apF (b : En) (f : qn) : qn := if f.fd = 0 then ⟨apG b f.fk, f.fd, f.fq⟩ else f
def zbH (i : Int) : qn := ⟨⟨0, ⟨#[]⟩, []⟩, i, -1⟩
def zat (g : Gl) : qn := ⟨g, 0, 0⟩
theorem qu3 {α β : Type} {l : List α} (f : α → β) (n : Nat) (h : n ≤ l.length) {x : α} (hx : zh l ((n : Nat) : Int) = some x) (out : List β) : out ++ [f x] ++ (l.take n).reverse.map f = out ++ (l.take (n + 1)).reverse.map f := by
 rw [qdl] at hx
 rw [List.take_add_one, hx]
 simp
theorem qri {k : List qn → Option (qd × Int)} (ids : List Int) : ∀ (n : Nat) (st : List qn), n ≤ ids.length → st.length + n ≤ 1000000000 → qbO k ids n st = k (st ++ (ids.take n).reverse.map zbH)
 | 0, st, _, _ => by rw [qbO]; simp
 | n + 1, st, h, hl => by
  obtain ⟨x, hx, _⟩ := ye (l := ids) (i := (n : Int)) oa oa
  rw [qbO, hx, ja, qfo oa (n := n) oa, ja, qri ids n _ oa (by rw [jb, jl]; omega)]
  congr 1
  exact qu3 zbH n oa hx st
theorem qq8 (fuel : Nat) (hf : 1500000000 < fuel) {c : qd} {pre : List qn} {f0 : qn} (hs : c.fb = pre ++ [f0]) (hw : ∀ f ∈ pre, wtL f.fk.ts ≤ 200) (r : En × List Int × Int) (hb : ∀ q ∈ r.1, wt q.2 ≤ 200) {k : List qn → Option (qd × Int)} {Q : qd × Int → Prop} (hQ : Q (⟨[], [], [], [], 0, 0, false⟩, 6)) (hp : pre.length ≤ 1000)
 (hk : (∀ f ∈ pre, f.fd = 0 → zn (apG r.1 f.fk) = true) → Yl (k (pre.map (apF r.1))) Q) : ∀ (n : Nat) (done rest : List qn) (i : Int), pre = done ++ rest → n = rest.length → i = (done.length : Int) → (∀ f ∈ done, f.fd = 0 → zn (apG r.1 f.fk) = true) → Yl (qa3 k c fuel r n (done.map (apF r.1)) i) Q
 | 0, done, rest, i, h, hn, _, hd => by
  rw [qa3]
  rw [jz hn.symm, jv] at h
  subst h
  exact hk hd
 | n + 1, done, [], i, h, hn, _, _ => by cases hn
 | n + 1, done, f :: rest, i, h, hn, hi, hd => by
  have hlen : pre.length = done.length + (rest.length + 1) := by rw [h, jb, jg]
  have hg : zh c.fb i = some f := by
   rw [hs, h, hi, jk]
   exact qys
  have hfw := hw f (by rw [h]; simp)
  have next : (f.fd = 0 → zn (apG r.1 f.fk) = true) → Yl (qa3 k c fuel r n (done.map (apF r.1) ++ [apF r.1 f]) (i + 1)) Q := fun hr => by
   have := qq8 fuel hf hs hw r hb hQ hp hk n (done ++ [f]) rest (i + 1) (by rw [h, jk]; rfl) (by rw [jg] at hn; omega) (by rw [jb, jl]; omega) (fun x hx => by
    rcases jj.1 hx with hx | hx
    exact hd x hx
    rw [ji.1 hx]
    exact hr)
   rw [jM, List.map_singleton] at this
   exact this
  rw [qa3, hg, ja]
  refine .cond (fun h0 => ?_) fun h0 => ?_
  · have h1 := qro (W := 200) oa hb f.fk.ts
    have h2 : wtL f.fk.ts * 200 ≤ 200 * 200 := jK _ hfw
    rw [qpk r.1 fuel f.fk oa oa, ja, qgu _ (show wtL (apL r.1 f.fk.ts) ≤ 1000000000 by omega), ja]
    refine .cond (fun _ => .pure hQ) fun hr => ?_
    rw [qfo oa (n := 0) oe, ja]
    have := next fun _ => nF hr
    unfold apF at this
    rw [if_pos (eT h0)] at this
    exact this
  · rw [qfo oa (n := 0) oe, ja]
    have := next fun h => absurd h (eF h0)
    have e : apF r.1 f = f := by unfold apF; rw [if_neg (eF h0)]
    rw [e] at this
    exact this
structure zaT (fuel : Nat) (c : qd) (pre : List qn) (f : qn) (t : qd) (b : En) (ids : List Int) : Prop where
 eq : ∃ bound, qcF fuel c.fu f.fk = some (b, bound, 0)
 st : t.fb = pre.map (apF b) ++ ids.reverse.map zbH
 s : t.fj = c.fj.map (apI b)
 bb : t.fu = b
 h : t.fC = c.fC
 n : t.fA = c.fA
 fr : t.fz = c.fz
 fl : t.fF = c.fF
 w : ∀ q ∈ b, wt q.2 ≤ 200
 l : b.length ≤ 1000000000
 g : f.fk.op ≠ 3 → Gud c.fu b
 ok : za7 t.fj
 id : ∀ x ∈ ids, ∃ a, (x, a) ∈ c.fj
 sl : t.fb.length ≤ 1000
 r : ∀ f ∈ pre, f.fd = 0 → zn (apG b f.fk) = true
theorem qwG (fuel : Nat) (hf : 1500000000 < fuel) {p : qc} {c : qd} (hc : yp p c) {pre : List qn} {f : qn} (hs : c.fb = pre ++ [f]) (hg : zh c.fb (wr ((c.fb.length : Int) - 1)) = some f) (hsub : zS c.fb 0 (wr ((c.fb.length : Int) - 1)) = some pre) (h0 : f.fd = 0) (hop : f.fk.op ≠ 0) : Yl (qew fuel c) fun r => r.2 = 0 → r.1 = { c with fb := pre, fF := true } ∨ ∃ b ids, zaT fuel c pre f r.1 b ids := by
 have hfm : f ∈ c.fb := by rw [hs]; simp
 have hgm := hc.f f hfm h0
 have hsl := hc.sl
 have hpl : c.fb.length = pre.length + 1 := by rw [hs, jb, jl]
 have hpw : ∀ x ∈ pre, wtL x.fk.ts ≤ 200 := fun x hx => hc.w x (by rw [hs]; exact jo _ hx)
 have hst := hc.sw
 have hstl := hc.sd.st.n
 unfold qew
 rw [hg, ja]
 obtain ⟨r, er, hr⟩ := qwB fuel hf hc.sd.bd f.fk hgm.1 hop hgm.2.1 hgm.2.2
 rw [er, ja]
 refine .cond (fun _ => .pure fun h => absurd h (show ¬ (6 : Int) = 0 by omega)) fun _ => .cond (fun _ => ?_) fun h1 => ?_
 rw [hsub, ja]
 exact .pure fun _ => .inl rfl
 obtain ⟨⟨hb, hbl⟩, hgud⟩ := hr (bF h1)
 have h1 := bF h1
 rw [show ((wr ((c.fb.length : Int) - (1 : Int))) - 0 : Int).toNat = pre.length by rw [qgI oa]; omega]
 refine qq8 fuel hf hs hpw r hb (fun h => absurd h (show ¬ (6 : Int) = 0 by omega)) oa (fun hrt => ?_) _ [] pre 0 rfl rfl rfl (fun x h => by cases h)
 rw [qwW fuel hf r.1 _ hst oa, ja]
 refine .bind (qzM _ fun q hq => ?_) fun r3 q3 => .cond (fun _ => .pure fun h => absurd h (show ¬ (6 : Int) = 0 by omega)) fun e3 => .bind (qDC fuel oa _ oa hst _) fun ids hids => ?_
 obtain ⟨x, hx, rfl⟩ := jq.1 hq
 have h1 := qro (W := 200) oa hb x.2.ts
 have h2 : wtL x.2.ts * 200 ≤ 200 * 200 := jK _ (hst x hx)
 show wtL (apL r.1 x.2.ts) ≤ 1000000000
 omega
 have hil := hids.2
 rw [qoQ oa, ja, qri ids ids.length _ (jn _) oe, vJ]
 refine .cond (fun _ => .pure fun h => absurd h (show ¬ (6 : Int) = 0 by omega)) fun h5 => .pure fun _ => .inr ⟨r.1, ids, ?_⟩
 have h5 := dF h5
 exact ⟨⟨r.2.1, by rw [er, ← h1]⟩, rfl, rfl, rfl, rfl, rfl, rfl, rfl, hb, hbl, hgud, q3 (nF e3), hids.1, by dsimp only; omega, hrt⟩
/-! ### a rule -/
theorem qrs {k : List qn → Option (qd × Int)} (r : List (Int × At) × List qi × List Gl × Int) : ∀ (n : Nat) (st : List qn), n ≤ r.2.2.1.length → st.length + n ≤ 1000000000 → qbt k r n st = k (st ++ (r.2.2.1.take n).reverse.map zat)
 | 0, st, _, _ => by rw [qbt]; simp
 | n + 1, st, h, hl => by
  obtain ⟨x, hx, _⟩ := ye (l := r.2.2.1) (i := (n : Int)) oa oa
  rw [qbt, hx, ja, qnl _ _ oa, ja, qrs r n _ oa (by rw [jb, jl]; omega)]
  congr 1
  exact qu3 zat n oa hx st
structure zac (fuel : Nat) (p : qc) (c : qd) (pre : List qn) (e : qw) (r : qk) (env : En) (t : qd) : Prop where
 eq : qck fuel p c.fj c.fC env c.fz e.fJ e.fD = some (t.fj, t.fC, r.fp.map (inG (ef env c.fz)), 0)
 st : t.fb = (if e.fa = 4 then pre else c.fb) ++ (r.fp.map (inG (ef env c.fz))).reverse.map zat
 s : t.fj = yi c.fj (e.fD.drop r.fg.length)
 bb : t.fu = c.fu
 n : t.fA = c.fA
 fr : t.fz = wr (c.fz + r.fL)
 fl : t.fF = c.fF
 g : ∀ g ∈ r.fp, zn (inG (ef env c.fz) g) = true
 sl : t.fb.length ≤ 1000
theorem qwy (fuel : Nat) (hf : 1500000000 < fuel) {p : qc} {c : qd} (hc : yp p c) {pre : List qn} {f : qn} (hs : c.fb = pre ++ [f]) (hsub : zS c.fb 0 (wr ((c.fb.length : Int) - 1)) = some pre) (e : qw) (r : qk) (hr : zh p.fc e.fJ = some r) (env : En) (ee : q7 fuel p c.fj c.fu [] c.fC e.fJ e.fD = some (env, true)) (he : zag c.fj r e.fD env) : Yl (qdT fuel p c e) fun t => t.2 = 0 → zac fuel p c pre e r env t.1 := by
 have hsl := hc.sl
 have hpl : c.fb.length = pre.length + 1 := by rw [hs, jb, jl]
 have hbl := (hc.pr.r r (qdB hr)).bl
 unfold qdT qeF
 rw [ee, ja]
 obtain ⟨q, eq, hq⟩ := qxc fuel hf hc.pr hc.sd.st _ hc.sd.hl c.fz e.fJ r hr e.fD env he
 rw [eq, ja]
 refine .cond (fun h => .pure fun h' => absurd h' (bT h)) fun h1 => ?_
 have h1 := bF h1
 obtain ⟨a1, a2, a3⟩ := hq h1
 have hb : q.2.2.1.length ≤ 12 := by rw [a2, jd]; omega
 have main : ∀ st : List qn, st.length ≤ 1000 → st = (if e.fa = 4 then pre else c.fb) → Yl ((yS (wr ((q.2.2.1.length : Int) - (1 : Int)))).bind fun m_15 => qbt (fun stack_9 => (bif (decide ((stack_9.length : Int) > (1000 : Int))) then some ((⟨[], [], [], [], 0, 0, false⟩ : qd), 6) else ((zh p.fc e.fJ).bind fun q_11 => some ((⟨stack_9, q.1, c.fu, q.2.1, c.fA, (wr (c.fz + q_11.fL)), c.fF⟩ : qd), 0)))) q m_15 st) fun t => t.2 = 0 → zac fuel p c pre e r env t.1 := fun st hst he => by
  rw [qoQ oa, ja, qrs q q.2.2.1.length st (jn _) oa, vJ]
  refine .cond (fun _ => .pure fun h => absurd h (show ¬ (6 : Int) = 0 by omega)) fun h5 => ?_
  have h5 := dF h5
  rw [hr, ja]
  refine .pure fun _ => ⟨?_, ?_, a1, rfl, rfl, rfl, rfl, fun g hg => a3 _ ?_, by dsimp only; omega⟩
  rw [eq, ← a2, ← h1]
  show st ++ _ = _
  rw [he, a2]
  rw [a2]
  exact jq.2 ⟨g, hg, rfl⟩
 refine .cond (fun hk => ?_) fun hk => ?_
 rw [hsub, ja]
 exact main pre oa (by rw [if_pos (eT hk)])
 exact main c.fb oa (by rw [if_neg (eF hk)])
/-! ### a step -/
inductive zbi (fuel : Nat) (p : qc) (c : qd) (pre : List qn) (f : qn) (e : qw) (t : qd) : Prop
 | fail : e.fa = 1 → t = { c with fb := pre, fF := true } → zbi fuel p c pre f e t
 | solve (b : En) (ids : List Int) : e.fa = 1 → f.fd = 0 → f.fk.op ≠ 0 → zaT fuel c pre f t b ids → zbi fuel p c pre f e t
 | app (a : At) (o : qt) (r : qk) (h : At) (env : En) : (e.fa = 4 ∧ o.fI = false ∨ e.fa = 5 ∧ o.fI = true) → f.fd ≠ 0 → (f.fd, a) ∈ c.fj → zh ((zab p.fc 0).filter (yK p a.n (a.ts.length : Int))) f.fq = some o → zar p o r h → e.fJ = o.fy → zh e.fD o.fG = some f.fd → q7 fuel p c.fj c.fu [] c.fC e.fJ e.fD = some (env, true) → zag c.fj r e.fD env → zac fuel p c pre e r env t → zbi fuel p c pre f e t
 | drop : e.fa = 7 → t = { c with fb := pre } → f.fd ≠ 0 → ((∀ a, (f.fd, a) ∉ c.fj) ∨ ∃ a, (f.fd, a) ∈ c.fj ∧ (((zab p.fc 0).filter (yK p a.n (a.ts.length : Int))).length : Int) ≤ f.fq) → zbi fuel p c pre f e t
 | act : e.fa = 2 → f.fd = 0 → f.fk.op = 0 → c.fA ≠ 2147483648 → zy ⟨f.fk.n, f.fk.ts⟩ = true → za7 c.fj → c.fj.length < 500 → t = ⟨pre ++ [⟨⟨0, ⟨#[]⟩, []⟩, c.fA, 0⟩], c.fj ++ [(c.fA, ⟨f.fk.n, f.fk.ts⟩)], c.fu, c.fC, wr (c.fA + 1), c.fz, c.fF⟩ → zbi fuel p c pre f e t
 | re : e.fa = 3 → f.fd ≠ 0 → t = { c with fb := pre ++ [⟨f.fk, f.fd, 0⟩] } → zbi fuel p c pre f e t
 | dflt (a : At) (o : qt) (r : qk) (h : At) (ch : List (List Int)) : e.fa = 6 → f.fd ≠ 0 → (f.fd, a) ∈ c.fj → 0 ≤ f.fq → zh ((zab p.fc 0).filter (yK p a.n (a.ts.length : Int))) f.fq = some o → zar p o r h → chs fuel p c o.fy = some ch → (∀ x ∈ ch, zh x o.fG ≠ some f.fd) → t = { c with fb := pre ++ [⟨f.fk, f.fd, wr (f.fq + 1)⟩] } → zbi fuel p c pre f e t
theorem qyy {l : List (Int × At)} (hst : za7 l) (x : Int × At) (hx : wtL x.2.ts ≤ 200) : Yl (qc3 l x) fun r => r.2 = 0 → (r.1 = l ++ [x] ∧ zy x.2 = true) ∧ l.length < 500 := by
 obtain ⟨r, e, hr⟩ := qAw hst x hx
 refine ⟨r, e, fun h => ⟨hr h, ?_⟩⟩
 have key : Yl (qc3 l x) fun r => r.2 = 0 → l.length < 500 := by
  have hl := hst.n
  unfold qc3
  refine .bind (qzM l fun q hq => by have := (qeC (hst.a q hq)).2.1; omega) fun _ _ => .cond (fun _ => .pure fun h => absurd h (show ¬ (2 : Int) = 0 by omega)) fun _ => ?_
  rw [qhr x.2 oa, ja]
  refine .cond (fun _ => .pure fun h => absurd h (show ¬ (2 : Int) = 0 by omega)) fun hr => .cond (fun _ => .pure fun h => absurd h (show ¬ (2 : Int) = 0 by omega)) fun _ => ?_
  have main : ∀ (k : Option (List (Int × At) × Int)) (_ : Yl k fun r => r.2 = 0 → l.length < 500) (m : List (Int × At)), Yl (qa8 k x m) fun r => r.2 = 0 → l.length < 500 := fun k hk m => by
   induction m with
   | nil => rw [qa8]; exact hk
   | cons y m ih =>
    rw [qa8]
    exact .cond (fun _ => .pure fun h => absurd h (show ¬ (8 : Int) = 0 by omega)) fun _ => ih
  refine main _ (.cond (fun h => ?_) fun _ => .cond (fun _ => .pure fun h => absurd h (show ¬ (6 : Int) = 0 by omega)) fun h5 => ?_) l
  have h := dT h
  obtain ⟨y, hy, _⟩ := ye (l := l) (i := wr ((l.length : Int) - 1)) (by rw [qgI oa]; omega) (by rw [qgI oa]; omega)
  rw [hy, ja]
  refine .cond (fun _ => .pure fun h => absurd h (show ¬ (2 : Int) = 0 by omega)) fun _ => .cond (fun _ => .pure fun h => absurd h (show ¬ (6 : Int) = 0 by omega)) fun h5 => ?_
  have h5 := dF h5
  rw [qnY oa oa, ja, qfo oa (n := 0) oa, ja]
  exact .pure fun _ => by omega
  have h5 := dF h5
  rw [qnY oa oa, ja, qfo oa (n := 0) oa, ja]
  exact .pure fun _ => by omega
 obtain ⟨r', e', h'⟩ := key
 rw [e] at e'
 cases e'
 exact h' h
theorem qCv (fuel : Nat) (hf : 1500000000 < fuel) {p : qc} (hp : BkP p) {c : qd} (hc : BkC c) {e : qw} {l' : List qw} (he : qbs fuel p c = some (e :: l')) : ∃ pre f, c.fb = pre ++ [f] ∧ yp p c ∧ c.fF = false ∧ Yl (qe6 fuel p c e) fun r => r.2 = 0 → zbi fuel p c pre f e r.1 := by
 obtain ⟨b, eb, hb, l, el, _, _, h3⟩ := qpM fuel hf hp hc
 obtain rfl := Option.some.inj (el.symm.trans he)
 obtain ⟨ok, hfl, pre, f, hs, hg, hsub, hev⟩ := h3 e l' rfl
 refine ⟨pre, f, hs, ok, hfl, ?_⟩
 have hsl := ok.sl
 have hpl : c.fb.length = pre.length + 1 := by rw [hs, jb, jl]
 unfold qe6
 rw [eb, ja]
 refine .cond (fun _ => .pure fun h => absurd h (show ¬ (2 : Int) = 0 by omega)) fun _ => .cond (fun _ => .pure fun h => absurd h (show ¬ (14 : Int) = 0 by omega)) fun _ => .cond (fun _ => .pure fun h => absurd h (show ¬ (14 : Int) = 0 by omega)) fun _ => ?_
 rw [he, ja, qbC]
 refine .bind (qww e e) fun x hx => ?_
 rw [hx rfl, cond_true]
 refine qu6 e ?_ l'
 rw [jy, cond_false, hg, ja]
 cases hev with
 | solve h1 h2 h3 =>
  rw [uT h1, cond_true]
  exact .bind (qwG fuel hf ok hs hg hsub h2 h3) fun r hr => .pure fun h => (hr h).elim (fun h => .fail h1 h) fun ⟨b, ids, h⟩ => .solve b ids h1 h2 h3 h
 | act h1 h2 h3 h4 =>
  rw [uF (show e.fa ≠ 1 by omega), cond_false, uF (show e.fa ≠ 4 by omega), cond_false, uF (show e.fa ≠ 5 by omega), cond_false, uF (show e.fa ≠ 7 by omega), cond_false, uT h1, cond_true]
  refine .bind (qyy ok.sd.st (c.fA, ⟨f.fk.n, f.fk.ts⟩) (ok.w f (by rw [hs]; simp))) fun r hr => .cond (fun _ => .pure fun h => absurd h (show ¬ (6 : Int) = 0 by omega)) fun e1 => .cond (fun _ => .pure fun h => absurd h (show ¬ (6 : Int) = 0 by omega)) fun e2 => ?_
  rw [uF (show e.fa ≠ 3 by omega), cond_false, uF (show e.fa ≠ 6 by omega), cond_false, hsub, ja, qnl _ _ oa, ja]
  obtain ⟨⟨a1, a2⟩, a3⟩ := hr (bF e1)
  refine .pure fun _ => .act h1 h2 h3 (eF e2) a2 ok.sd.st a3 ?_
  rw [a1, h4]
 | gone h1 h2 h3 =>
  rw [uF (show e.fa ≠ 1 by omega), cond_false, uF (show e.fa ≠ 4 by omega), cond_false, uF (show e.fa ≠ 5 by omega), cond_false, uT h1, cond_true, hsub, ja]
  exact .pure fun _ => .drop h1 rfl h2 (.inl h3)
 | last a h1 h2 h3 h4 =>
  rw [uF (show e.fa ≠ 1 by omega), cond_false, uF (show e.fa ≠ 4 by omega), cond_false, uF (show e.fa ≠ 5 by omega), cond_false, uT h1, cond_true, hsub, ja]
  exact .pure fun _ => .drop h1 rfl h2 (.inr ⟨a, h3, h4⟩)
 | re h1 h2 =>
  rw [uF (show e.fa ≠ 1 by omega), cond_false, uF (show e.fa ≠ 4 by omega), cond_false, uF (show e.fa ≠ 5 by omega), cond_false, uF (show e.fa ≠ 7 by omega), cond_false, uF (show e.fa ≠ 2 by omega), cond_false, uT h1, cond_true, uF (show e.fa ≠ 6 by omega), cond_false, hsub, ja, qnl _ _ oa, ja]
  exact .pure fun _ => .re h1 h2 rfl
 | dflt a o r h ch h1 h2 h3 h4 h5 h6 h7 h8 =>
  rw [uF (show e.fa ≠ 1 by omega), cond_false, uF (show e.fa ≠ 4 by omega), cond_false, uF (show e.fa ≠ 5 by omega), cond_false, uF (show e.fa ≠ 7 by omega), cond_false, uF (show e.fa ≠ 2 by omega), cond_false, uF (show e.fa ≠ 3 by omega), cond_false, uT h1, cond_true, hsub, ja, qnl _ _ oa, ja]
  exact .pure fun _ => .dflt a o r h ch h1 h2 h3 h4 h5 h6 h7 h8 rfl
 | app a o r h env h1 h2 h3 h4 h5 h6 h7 h8 h9 h10 =>
  rw [uF (show e.fa ≠ 1 by omega), cond_false]
  have ap := qwy fuel hf ok hs hsub e r (by rw [h7]; exact h6.1) env h9 h10
  refine .cond (fun _ => .bind ap fun t ht => .pure fun h0 => .app a o r h env h1 h2 h3 h5 h6 h7 h8 h9 h10 (ht h0)) fun hk => ?_
  rw [uT (show e.fa = 5 by have := eF hk; omega), cond_true]
  exact .bind ap fun t ht => .pure fun h0 => .app a o r h env h1 h2 h3 h5 h6 h7 h8 h9 h10 (ht h0)
theorem zbi.bk {fuel : Nat} {p : qc} {c : qd} (hc : yp p c) {pre : List qn} {f : qn} (hs : c.fb = pre ++ [f]) {e : qw} {t : qd} (h : zbi fuel p c pre f e t) : BkC t := by
 have hpw : ∀ x ∈ pre, wtL x.fk.ts ≤ 1000000000 := fun x hx => by have := hc.w x (by rw [hs]; exact jo _ hx); omega
 have hfw : wtL f.fk.ts ≤ 1000000000 := by have := hc.w f (by rw [hs]; simp); omega
 obtain ⟨k1, k2, k3, k4⟩ := hc.bk
 have snoc : ∀ g : qn, wtL g.fk.ts ≤ 1000000000 → ∀ x ∈ pre ++ [g], wtL x.fk.ts ≤ 1000000000 := fun g hg x hx => by
  rcases jj.1 hx with hx | hx
  exact hpw x hx
  rw [ji.1 hx]
  exact hg
 cases h with
 | fail _ h =>
  subst h
  exact ⟨hpw, k2, k3, k4⟩
 | solve b ids _ _ _ h =>
  refine ⟨fun x hx => ?_, fun q hq => ?_, fun q hq => ?_, ?_⟩
  rw [h.st] at hx
  rcases jj.1 hx with hx | hx
  obtain ⟨y, hy, rfl⟩ := jq.1 hx
  unfold apF
  split
  rename_i h0
  have := (qe8 (h.r y hy h0)).2
  show wtL (apG b y.fk).ts ≤ _
  omega
  exact hpw y hy
  obtain ⟨i, _, rfl⟩ := jq.1 hx
  simp [zbH, wtL]
  have := (qeC (h.ok.a q hq)).2.1
  omega
  rw [h.bb] at hq
  have := h.w q hq
  omega
  rw [h.bb]
  have := h.l
  omega
 | app a o r hd env _ _ _ _ _ _ _ _ _ h =>
  refine ⟨fun x hx => ?_, fun q hq => ?_, by rw [h.bb]; exact k3, by rw [h.bb]; exact k4⟩
  rw [h.st] at hx
  rcases jj.1 hx with hx | hx
  split at hx
  exact hpw x hx
  exact k1 x hx
  obtain ⟨g, hg, rfl⟩ := jq.1 hx
  rw [vN] at hg
  obtain ⟨g', hg', rfl⟩ := jq.1 hg
  have := (qe8 (h.g g' hg')).2
  show wtL (inG _ g').ts ≤ _
  omega
  rw [h.s] at hq
  exact k2 q (qo2 _ _ q hq)
 | drop _ h =>
  subst h
  exact ⟨hpw, k2, k3, k4⟩
 | act _ _ _ _ hr _ _ h =>
  subst h
  refine ⟨snoc _ (by simp [wtL]), fun q hq => ?_, k3, k4⟩
  rcases jj.1 hq with hq | hq
  exact k2 q hq
  rw [ji.1 hq]
  exact hfw
 | re _ _ h =>
  subst h
  exact ⟨snoc _ hfw, k2, k3, k4⟩
 | dflt _ _ _ _ _ _ _ _ _ _ _ _ _ h =>
  subst h
  exact ⟨snoc _ hfw, k2, k3, k4⟩
/-! ### a run -/
theorem qBp (fuel : Nat) (hf : 1500000000 < fuel) {p : qc} (hp : BkP p) (most : Int) (I : qd → List qw → Prop)
 (hI : ∀ c out e pre f t, yp p c → c.fF = false → c.fb = pre ++ [f] → I c out → zbi fuel p c pre f e t → I t (out ++ [e])) :
 ∀ (n : Nat) (out : List qw) (c : qd), (most - (out.length : Int)).toNat < n → out.length + n ≤ 9000000000 → BkC c → I c out → Yl (qcV fuel most p n out c) fun r => I r.1 r.2.1 ∧ BkC r.1 ∧ (r.2.2 = 0 → qbs fuel p r.1 = some [])
 | 0, out, c, h1, _, _, _ => absurd h1 (vq _)
 | n + 1, out, c, h1, h2, h3, hi => by
  rw [qcV]
  refine .bind (qB6 fuel hf hp h3) fun r hr => .cond (fun h => .pure ⟨hi, h3, fun _ => hr.2 (nT h)⟩) fun h => .cond (fun _ => .pure ⟨hi, h3, fun h => absurd h (show ¬ (15 : Int) = 0 by omega)⟩) fun h4 => ?_
  have h4 := dF h4
  obtain ⟨l', he⟩ := hr.1 (nF h)
  obtain ⟨pre, f, hs, ok, hfl, hd⟩ := qCv fuel hf hp h3 he
  refine .bind hd fun t ht => .cond (fun h5 => .pure ⟨hi, h3, fun h6 => absurd h6 (bT h5)⟩) fun h5 => ?_
  have st := ht (bF h5)
  rw [qfo oa (n := n) oa, ja]
  exact qBp fuel hf hp most I hI n _ t.1 (by rw [jb, jl]; omega) (by rw [jb, jl]; omega) (st.bk ok hs) (hI c out r.1 pre f t.1 ok hfl hs hi st)
/-! ### layer 15: declared names -/
def yq (ds : List qaS) (s : ByteArray) (n : Int) : Prop := ∃ d ∈ ds, d.fK = s ∧ d.fN = n
theorem qvQ (s : ByteArray) (n : Int) : ∀ l : List qaS, Yl (qR (some false) n s l) fun b => b = true ↔ yq l s n
 | [] => by
  rw [qR]
  exact .pure ⟨fun h => (by cases h), fun ⟨d, h, _⟩ => by cases h⟩
 | d :: l => by
  have up : yq l s n → yq (d :: l) s n := fun ⟨x, h, e⟩ => ⟨x, je _ h, e⟩
  rw [qR]
  have next := fun (hn : ¬ (d.fK = s ∧ d.fN = n)) => (qvQ s n l).mono fun b hb => (⟨fun h => up (hb.1 h), fun ⟨x, h, e⟩ => by
   rcases jh.1 h with rfl | h
   exact absurd e hn
   exact hb.2 ⟨x, h, e⟩⟩ : b = true ↔ yq (d :: l) s n)
  refine .cond (fun h1 => .cond (fun h2 => .pure ⟨fun _ => ⟨d, jc .., sT h1, eT h2⟩, fun _ => rfl⟩) fun h2 => next fun h => eF h2 h.2) fun h1 => next fun h => sF h1 h.1
theorem qvj (l : List qaS) (s : ByteArray) (n : Int) : Yl (qbL l s n) fun b => b = true ↔ yq l s n := qvQ s n l
theorem quz (l : List qaS) (s : ByteArray) (n : Int) : Yl (qdi l s n) fun e => e = 0 → yq l s n := by
 have main : ∀ (k : Int → Option Int) (_ : ∀ e, (e = 7 ∨ e = 9) → Yl (k e) fun e => e = 0 → yq l s n) (m : List qaS) (e : Int), (e = 7 ∨ e = 9) → Yl (qZ k s m e) fun e => e = 0 → yq l s n := fun k hk m => by
  induction m with
  | nil => intro e he; rw [qZ]; exact hk e he
  | cons d m ih =>
   intro e he
   rw [qZ]
   exact .cond (fun _ => ih 9 (.inr rfl)) fun _ => ih e he
 exact main _ (fun e he => .bind (qvj l s n) fun b hb => .cond (fun h => .pure fun _ => hb.1 h) fun _ => .pure fun h => by omega) l 7 (.inl rfl)
theorem qo5 (ds : List qaS) : ∀ l : List Gl, Yl (qak (some 0) ds l) fun e => e = 0 → ∀ g ∈ l, g.op = 0 → yq ds g.n (g.ts.length : Int)
 | [] => by rw [qak]; exact .pure fun _ g h => by cases h
 | g :: l => by
  rw [qak]
  have next := fun (h0 : g.op = 0 → yq ds g.n (g.ts.length : Int)) => (qo5 ds l).mono fun e he h x hx => (jh.1 hx).elim (fun e => e ▸ h0) (he h x)
  exact .cond (fun h => next fun h' => absurd h' (bT h)) fun _ => .bind (quz ds _ _) fun e he => .cond (fun h => .pure fun h' => absurd h' (bT h)) fun h => next fun _ => he (bF h)
theorem qvc (n : Int) : Yl (qcq n) fun b => b = false → n < 5 ∨ 12 < n := by
 unfold qcq
 exact .cond (fun _ => .pure fun h => by have := dF h; omega) fun h => .pure fun _ => by have := dF h; omega
structure zb0 (ds : List qaS) (vars : Int) (l : List Gl) : Prop where
 n : l.length ≤ 40
 g : ∀ g ∈ l, zn g = true
 c : ∀ g ∈ l, g.op = 0 → yq ds g.n (g.ts.length : Int)
 t : ∀ g ∈ l, g.op ≤ 4
 v : ∀ g ∈ l, ∀ x ∈ zo g.ts, x < vars
theorem qv5 {Q : Int → Prop} (hQ : Q 17) {k : Option Int} (vars : Int) : ∀ l : List Int, ((∀ x ∈ l, x < vars) → Yl k Q) → Yl (qaX k vars l) Q
 | [], hk => by rw [qaX]; exact hk fun x h => by cases h
 | x :: l, hk => by
  rw [qaX]
  refine .cond (fun _ => .pure hQ) fun h => qv5 hQ vars l fun hl => hk fun y hy => ?_
  have h := dF h
  rcases jh.1 hy with rfl | hy
  omega
  exact hl y hy
theorem qvS (fuel : Nat) (hf : 1000000000 < fuel) (vars : Int) : ∀ l : List Gl, (∀ g ∈ l, wtL g.ts ≤ 200) → Yl (qa0 (some 0) fuel vars l) fun e => e = 0 → ∀ g ∈ l, ∀ x ∈ zo g.ts, x < vars
 | [], _ => by rw [qa0]; exact .pure fun _ g h => by cases h
 | g :: l, hw => by
  have hg := hw g (jc ..)
  rw [qa0]
  unfold qbJ
  rw [qiI fuel g.ts oa oa, ja, ja]
  refine qv5 (fun h => by omega) vars _ fun h => (qvS fuel hf vars l fun x hx => hw x (je _ hx)).mono fun e he h0 x hx => ?_
  rcases jh.1 hx with rfl | hx
  exact fun y hy => h y (qg5.2 (.inr hy))
  exact he h0 x hx
theorem qvx {Q : Int → Prop} (hQ : Q 10) {k : Option Int} : ∀ l : List Gl, ((∀ g ∈ l, g.op < 5 ∨ 12 < g.op) → Yl k Q) → Yl (qaY k l) Q
 | [], hk => by rw [qaY]; exact hk fun x h => by cases h
 | g :: l, hk => by
  rw [qaY]
  refine .bind (qvc _) fun b hb => .cond (fun _ => .pure hQ) fun h => qvx hQ l fun hl => hk fun y hy => ?_
  rcases jh.1 hy with rfl | hy
  exact hb h
  exact hl y hy
theorem qwx {Q : Int → Prop} (hQ : Q 2) {k : Option Int} : ∀ l : List Gl, (∀ a ∈ l, wtL a.ts ≤ 1000000000) → ((∀ a ∈ l, zn a = true) → Yl k Q) → Yl (qaZ k l) Q
 | [], _, hk => by rw [qaZ]; exact hk fun a h => by cases h
 | a :: l, hw, hk => by
  rw [qaZ, qgu a (by have := hw a (jc ..); omega), ja]
  refine .cond (fun _ => .pure hQ) fun h => qwx hQ l (fun b hb => hw b (je _ hb)) fun hl => hk fun b hb => ?_
  rcases jh.1 hb with rfl | hb
  exact nF h
  exact hl b hb
theorem qAr (fuel : Nat) (hf : 1000000000 < fuel) (ds : List qaS) (l : List Gl) (vars : Int) (hw : ∀ a ∈ l, wtL a.ts ≤ 1000000000) : Yl (qdt fuel ds l vars) fun e => e = 0 → zb0 ds vars l := by
 unfold qdt
 refine .cond (fun _ => .pure fun h => absurd h (show ¬ (6 : Int) = 0 by omega)) fun hl => .cond (fun _ => .pure fun h => absurd h (show ¬ (6 : Int) = 0 by omega)) fun _ => .cond (fun _ => .pure fun h => absurd h (show ¬ (6 : Int) = 0 by omega)) fun _ => ?_
 have hl := dF hl
 refine qwx (fun h => by omega) l hw fun hg => .bind (qo5 ds l) fun e he => .cond (fun h => .pure fun h' => absurd h' (bT h)) fun h => qvx (fun h => by omega) l fun ht => (qvS fuel hf vars l fun g hg' => (qe8 (hg g hg')).2).mono fun e' he' h0 => ?_
 exact ⟨by omega, hg, he (bF h), fun g hg' => by have := ht g hg'; have := qnv (hg g hg'); omega, he' h0⟩
/-! ### the first state -/
theorem qvm (k : List qn → Option qd) (goals : List Gl) : ∀ (n : Nat) (st : List qn), n ≤ goals.length → st.length + n ≤ 1000000000 → qbM k goals n st = k (st ++ (goals.take n).reverse.map zat)
 | 0, st, _, _ => by rw [qbM]; simp
 | n + 1, st, h, hl => by
  obtain ⟨x, hx, _⟩ := ye (l := goals) (i := (n : Int)) oa oa
  rw [qbM, hx, ja, qfo oa (n := n) oa, ja, qvm k goals n _ oa (by rw [jb, jl]; omega)]
  congr 1
  exact qu3 zat n oa hx st
theorem qz5 (goals : List Gl) (hl : goals.length ≤ 1000) (vars : Int) (hv : 0 ≤ vars) : qer goals vars = some ⟨goals.reverse.map zat, [], [], [], 1, vars, false⟩ := by
 unfold qer qeB
 rw [decide_eq_false oa, cond_false]
 dsimp only
 rw [qoQ oa, ja, qvm _ goals goals.length [] (jn _) oe, vJ, jp]
end
end Go.Proofs.YtamoolpdganckaaGreat
