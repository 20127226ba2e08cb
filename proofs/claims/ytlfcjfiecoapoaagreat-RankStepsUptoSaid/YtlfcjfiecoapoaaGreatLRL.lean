/-
 Texts of the seat, merged.
-/
import Derived.Test.YtlfcjfiecoapoaaGreatLRK
set_option linter.unusedVariables false
set_option linter.unusedSimpArgs false
set_option linter.unnecessarySimpa false
set_option linter.all false
set_option maxHeartbeats 8000000
namespace Go.Proofs.YtlfcjfiecoapoaaGreat
set_option maxRecDepth 100000
open Go.RowKit
/-! ### applying a substitution, taking a goal out -/
def apG (c : En) (g : Gl) : Gl := ⟨g.op, g.n, apL c g.ts⟩
def apI (c : En) (q : Int × At) : Int × At := (q.1, ⟨q.2.n, apL c q.2.ts⟩)
def inG (f : Int → T) (g : Gl) : Gl := ⟨g.op, g.n, inL f g.ts⟩
theorem qt1 (fuel : Nat) (hf : 1500000000 < fuel) {c : En} (hc : ∀ q ∈ c, wt q.2 ≤ 200) {Q : List Gl × Bool → Prop} (hQ : Q ([], false)) : ∀ (l out : List Gl), (∀ g ∈ l, wtL g.ts ≤ 200) → out.length + l.length ≤ 1000000000 → ((∀ g ∈ l, zz (apG c g) = true) → Q (out ++ l.map (apG c), true)) → Yl (qbC (fun out_7 => some (out_7, true)) c fuel l out) Q
 | [], out, _, _, hk => by
  rw [qbC]
  have := hk fun g h => by cases h
  rw [vb, jx] at this
  exact .pure this
 | g :: l, out, hw, hl, hk => by
  rw [jg] at hl
  have hg := hw g (jd ..)
  have h1 := qp3 (W := 200) (by omega) hc g.ts
  have h2 : wtL g.ts * 200 ≤ 200 * 200 := jL _ hg
  rw [qbC, qoK c fuel g (by omega) (by omega), ja, qhf _ (show wtL (apL c g.ts) ≤ 1000000000 by omega), ja]
  refine .cond (fun _ => .pure hQ) fun hr => ?_
  rw [qg5 (by omega) (n := l.length) (by omega), ja]
  refine qt1 fuel hf hc hQ l _ (fun x hx => hw x (je _ hx)) (by rw [jf, jp]; omega) fun hl => ?_
  have := hk fun x hx => by
   rcases jh.1 hx with rfl | hx
   · exact nF hr
   · exact hl x hx
  rw [ji]
  exact this
theorem qt2 (fuel : Nat) (hf : 1500000000 < fuel) {c : En} (hc : ∀ q ∈ c, wt q.2 ≤ 200) (l : List Gl) (hw : ∀ g ∈ l, wtL g.ts ≤ 200) (hl : l.length ≤ 1000000000) : Yl (qdp fuel c l) fun r => r.2 = true → r.1 = l.map (apG c) ∧ ∀ g ∈ r.1, zz g = true := by
 unfold qdp
 refine qt1 fuel hf hc (fun h => by cases h) l [] hw (by simpa using hl) fun h _ => ⟨by simp, fun g hg => ?_⟩
 simp only [jo] at hg
 obtain ⟨x, hx, rfl⟩ := jA.1 hg
 exact h x hx
theorem qux (fuel : Nat) (hf : 1500000000 < fuel) (c : En) : ∀ (l out : List (Int × At)), (∀ q ∈ l, wtL q.2.ts ≤ 200) → out.length + l.length ≤ 1000000000 → qby (fun out_7 => some out_7) c fuel l out = some (out ++ l.map (apI c))
 | [], out, _, _ => by rw [qby, vb, jx]
 | q :: l, out, hw, hl => by
  rw [jg] at hl
  have hq := hw q (jd ..)
  rw [qby, qwp c fuel q.2 (by omega) (by omega), ja, qg5 (by omega) (n := l.length) (by omega), ja, qux fuel hf c l _ (fun x hx => hw x (je _ hx)) (by rw [jf, jp]; omega), ji]
  rfl
theorem qvM (fuel : Nat) (hf : 1500000000 < fuel) (c : En) (l : List (Int × At)) (hw : ∀ q ∈ l, wtL q.2.ts ≤ 200) (hl : l.length ≤ 1000000000) : qd6 fuel l c = some (l.map (apI c)) := by
 unfold qd6
 rw [qux fuel hf c l [] hw (by simpa using hl), jo]
theorem qtL (kk : Nat) : ∀ (l out : List Gl) (i : Nat), out.length + l.length ≤ 1000000000 → qax (fun o => some o) (kk : Int) l out i = some (out ++ if i ≤ kk then l.eraseIdx (kk - i) else l)
 | [], out, i, _ => by rw [qax]; simp
 | g :: l, out, i, hl => by
  rw [jg] at hl
  rw [qax]
  by_cases h : i = kk
  · subst h
    rw [show ((i : Int) != (i : Int)) = false by simp, cond_false, qtL i l out (i + 1) (by omega), if_neg (by omega), if_pos (jk _), Nat.sub_self]
    rfl
  · rw [show ((i : Int) != (kk : Int)) = true by simp; omega, cond_true, qg5 (by omega) (n := l.length) (by omega), ja, qtL kk l _ (i + 1) (by rw [jf, jp]; omega)]
    by_cases h2 : i ≤ kk
    · rw [if_pos h2, if_pos (by omega), show kk - i = (kk - (i + 1)) + 1 by omega, List.eraseIdx_cons_succ, ji]
      rfl
    · rw [if_neg h2, if_neg (by omega), ji]
      rfl
theorem qwM (l : List Gl) (k : Int) (hk : 0 ≤ k) (hl : l.length ≤ 1000000000) : qdL l k = some (l.eraseIdx k.toNat) := by
 have := qtL k.toNat l [] 0 (by simpa using hl)
 rw [Int.toNat_of_nonneg hk, if_pos (jc _), jo, Nat.sub_zero] at this
 exact this
/-! ### states -/
structure zR (p : qn) (s : qw) : Prop where
 pr : yV p
 sd : zaT s.f1_Store s.f2_Binds s.f3_Fired s.f5_Next s.f6_Fresh
 gl : s.f0_Goals.length ≤ 1000
 kl : s.f4_Known.length ≤ 500
 g : ∀ g ∈ s.f0_Goals, zz g = true ∧ g.op ≤ 4 ∧ ∀ v ∈ zw g.ts, zp s.f2_Binds v = none
 k : ∀ g ∈ s.f4_Known, zz g = true
theorem qtV (fuel : Nat) (hf : 1000000000 < fuel) (s : qw) : ∀ l : List Gl, (∀ g ∈ l, wtL g.ts ≤ 1000000000) → Yl (qbq (some true) fuel s l) fun b => b = true → ∀ g ∈ l, zz g = true
 | [], _ => by rw [qbq]; exact .pure fun _ g h => by cases h
 | g :: l, hw => by
  have hg := hw g (jd ..)
  rw [qbq, qhf g hg, ja]
  refine .cond (fun _ => .pure fun h => by cases h) fun h1 => .cond (fun _ => .pure fun h => by cases h) fun _ => .bind (quT fuel hf g hg _ _) fun _ _ => .cond (fun _ => .pure fun h => by cases h) fun _ => (qtV fuel hf s l fun x hx => hw x (je _ hx)).mono fun b hb h x hx => ?_
  rcases jh.1 hx with rfl | hx
  · exact nF h1
  · exact hb h x hx
theorem qy9 (p : qn) (g : Gl) (hw : wtL g.ts ≤ 1000000000) : Yl (qd5 p g) fun b => b = true → zz g = true ∧ g.op ≤ 4 := by
 unfold qd5
 rw [qhf g hw, ja]
 refine .cond (fun _ => .pure fun h => by cases h) fun h1 => .cond (fun _ => .pure fun h => by cases h) fun h2 => ?_
 have h2 := dF h2
 exact .cond (fun _ => .pure fun _ => ⟨nF h1, by omega⟩) fun _ => .bind (qre _ _ _) fun _ _ => .pure fun _ => ⟨nF h1, by omega⟩
theorem quH (fuel : Nat) (hf : 1000000000 < fuel) (p : qn) (s : qw) {k : Option Bool} {Q : Bool → Prop} (hQ : Q false) : ∀ l : List Gl, (∀ g ∈ l, wtL g.ts ≤ 1000000000) → ((∀ g ∈ l, zz g = true ∧ g.op ≤ 4 ∧ ∀ v ∈ zw g.ts, zp s.f2_Binds v = none) → Yl k Q) → Yl (qbB k fuel p s l) Q
 | [], _, hk => by rw [qbB]; exact hk fun g h => by cases h
 | g :: l, hw, hk => by
  have hg := hw g (jd ..)
  rw [qbB]
  refine .bind (qy9 p g hg) fun r1 h1 => .cond (fun _ => .pure hQ) fun e1 => .bind (quT fuel hf g hg _ _) fun r2 h2 => .cond (fun _ => .pure hQ) fun e2 => quH fuel hf p s hQ l (fun x hx => hw x (je _ hx)) fun hl => hk fun x hx => ?_
  rcases jh.1 hx with rfl | hx
  · exact ⟨(h1 (nF e1)).1, (h1 (nF e1)).2, h2 (nF e2)⟩
  · exact hl x hx
structure BkS (s : qw) : Prop where
 g : ∀ g ∈ s.f0_Goals, wtL g.ts ≤ 1000000000
 k : ∀ g ∈ s.f4_Known, wtL g.ts ≤ 1000000000
 st : ∀ q ∈ s.f1_Store, wtL q.2.ts ≤ 1000000000
 b : ∀ q ∈ s.f2_Binds, wt q.2 ≤ 1000000000
 bl : s.f2_Binds.length ≤ 9000000000000000000
theorem qqD (fuel : Nat) (hf : 1000000000 < fuel) (p : qn) (hp : BkP p) (s : qw) (hs : BkS s) : Yl (qcS fuel p s) fun b => b = true → zR p s := by
 unfold qcS
 refine .bind (qAq fuel hf p hp) fun r1 h1 => .cond (fun _ => .pure fun h => by cases h) fun e1 => .cond (fun _ => .pure fun h => by cases h) fun e2 => .cond (fun _ => .pure fun h => by cases h) fun e3 => ?_
 have pr := h1 (bF e1)
 have e2 := dF e2
 have e3 := dF e3
 refine .bind (qxf fuel hf pr _ _ _ _ _ hs.st hs.bl hs.b) fun r4 h4 => .cond (fun _ => .pure fun h => by cases h) fun e4 => ?_
 have sd := h4 (nF e4)
 refine quH fuel hf p s (fun h => by cases h) _ hs.g fun hg => (qtV fuel hf s _ hs.k).mono fun b hb h => ?_
 exact ⟨pr, sd, by omega, by omega, hg, hb h⟩
theorem zR.bk {p : qn} {s : qw} (h : zR p s) : BkS s := by
 have := h.sd.bd.len
 exact ⟨fun g hg => by have := (qhR (h.g g hg).1).2; omega, fun g hg => by have := (qhR (h.k g hg)).2; omega, fun q hq => by have := (qgp (h.sd.st.a q hq)).2.1; omega, fun q hq => by have := (qhI (h.sd.bd.t q hq)).2; omega, by omega⟩
theorem zR.sw {p : qn} {s : qw} (h : zR p s) : ∀ q ∈ s.f1_Store, wtL q.2.ts ≤ 200 := fun q hq => (qgp (h.sd.st.a q hq)).2.1
theorem zR.bw {p : qn} {s : qw} (h : zR p s) : ∀ q ∈ s.f2_Binds, wt q.2 ≤ 200 := fun q hq => (qhI (h.sd.bd.t q hq)).2
theorem zR.kw {p : qn} {s : qw} (h : zR p s) : ∀ g ∈ s.f4_Known, wtL g.ts ≤ 200 := fun g hg => (qhR (h.k g hg)).2
theorem zR.gw {p : qn} {s : qw} (h : zR p s) : ∀ g ∈ s.f0_Goals, wtL g.ts ≤ 200 := fun g hg => (qhR (h.g g hg).1).2
/-! ### a built-in goal is solved -/
structure zbG (t : qw) : Prop where
 g : ∀ g ∈ t.f0_Goals, zz g = true
 s : ∀ q ∈ t.f1_Store, zn q.2 = true
 gl : t.f0_Goals.length ≤ 1000
 sl : t.f1_Store.length ≤ 501
def zbz (s : qw) (k : Int) (t : qw) : Prop := ∃ g c, zj s.f0_Goals k = some g ∧ g.op ≠ 0 ∧ (g.op ≠ 3 → Gud s.f2_Binds c) ∧ t.f0_Goals = (s.f0_Goals.eraseIdx k.toNat).map (apG c) ∧ t.f1_Store = s.f1_Store.map (apI c)
theorem qzo (fuel : Nat) (hf : 1500000000 < fuel) {p : qn} {s : qw} (hs : zR p s) (k : Int) (g : Gl) (hg : zj s.f0_Goals k = some g) (h0 : g.op ≠ 0) : Yl (qed fuel s k) fun r => r.2 = 0 → r.1.f7_Failed = false → zbz s k r.1 ∧ zbG r.1 := by
 have hgm := hs.g g (qeK hg)
 have hgl := hs.gl
 have hk0 := (qkf hg).1
 unfold qed
 rw [hg, ja]
 refine .bind (qvJ fuel hf hs.sd.bd g hgm.1 h0 hgm.2.1 hgm.2.2) fun r hr => .cond (fun _ => .pure fun h => absurd h (show ¬ (6 : Int) = 0 by omega)) fun _ => ?_
 rw [qwM _ k hk0 (by omega), ja]
 refine .cond (fun _ => .pure fun _ h => by cases h) fun h1 => ?_
 obtain ⟨hc, hgud⟩ := hr (bF h1)
 have hel : (s.f0_Goals.eraseIdx k.toNat).length ≤ s.f0_Goals.length := List.length_eraseIdx_le ..
 have hst := hs.sw
 have hsl := hs.sd.st.n
 have hkl := hs.kl
 refine .bind (qt2 fuel hf hc _ (fun x hx => hs.gw x (Jf hx)) (by omega)) fun r1 q1 => .bind (qt2 fuel hf hc _ hs.kw (by omega)) fun r2 q2 => ?_
 rw [qvM fuel hf r.1 _ hst (by omega), ja]
 refine .cond (fun _ => .pure fun h => absurd h (show ¬ (6 : Int) = 0 by omega)) fun e1 => .cond (fun _ => .pure fun h => absurd h (show ¬ (6 : Int) = 0 by omega)) fun e2 => .bind (qAg _ fun q hq => ?_) fun r3 q3 => .cond (fun _ => .pure fun h => absurd h (show ¬ (6 : Int) = 0 by omega)) fun e3 => .pure fun _ _ => ?_
 · obtain ⟨x, hx, rfl⟩ := jA.1 hq
   have h1 := qp3 (W := 200) (by omega) hc x.2.ts
   have h2 : wtL x.2.ts * 200 ≤ 200 * 200 := jL _ (hst x hx)
   show wtL (apL r.1 x.2.ts) ≤ 1000000000
   omega
 · obtain ⟨a1, a2⟩ := q1 (nF e1)
   have a3 := q3 (nF e3)
   refine ⟨⟨g, r.1, hg, h0, hgud, a1, rfl⟩, a2, a3.a, ?_, by have := a3.n; show (List.map _ _).length ≤ _; omega⟩
   show r1.1.length ≤ 1000
   rw [a1, jb]
   omega
/-! ### a rule is applied -/
def yc : List (Int × At) → List Int → List (Int × At)
 | l, [] => l
 | l, x :: xs => yc (l.filter fun q => decide (q.1 ≠ x)) xs
theorem qnM {l : List (Int × At)} {id : Int} (h : ∀ q ∈ l, q.1 ≠ id) : l.filter (fun q => decide (q.1 ≠ id)) = l := vR.2 fun q hq => by simpa using h q hq
theorem qzT (l : List (Int × At)) (hp : l.Pairwise fun q r => q.1 < r.1) (hl : l.length ≤ 1000000000) (id : Int) : ∀ (rest done : List (Int × At)) (i : Nat), l = done ++ rest → i = done.length → (∀ q ∈ done, q.1 ≠ id) → ∃ ok, qbd (some (l, false)) id l rest i = some (l.filter (fun q => decide (q.1 ≠ id)), ok)
 | [], done, i, h, hi, hd => by
  rw [qbd]
  rw [jx] at h
  exact ⟨false, by rw [qnM (h ▸ hd)]⟩
 | q :: rest, done, i, h, hi, hd => by
  rw [qbd]
  by_cases hq : q.1 = id
  · have hlen : l.length = done.length + (rest.length + 1) := by rw [h, jf, jg]
    have s1 : yt l 0 (i : Int) = some done := by
     unfold yt
     rw [if_pos (by omega), h, hi]
     simp
    have s2 : yt l ((i + 1 : Nat) : Int) (l.length : Int) = some rest := by
     unfold yt
     rw [if_pos (by omega), show ((i + 1 : Nat) : Int).toNat = done.length + 1 by omega, vG, List.take_length, h, List.drop_append, vV (by omega), show done.length + 1 - done.length = 1 by omega]
     rfl
    have hr : ∀ x ∈ rest, x.1 ≠ id := fun x hx => by
     rw [h, List.pairwise_append] at hp
     have := (vZ.1 hp.2.1).1 x hx
     omega
    refine ⟨true, ?_⟩
    rw [uT hq, cond_true, s1, ja, qrO (by omega) (by omega), ja, s2, ja, qlZ (by omega) (by omega), ja, h, List.filter_append, vt, if_neg (by simpa using hq), qnM hd, qnM hr]
  · rw [uF hq, cond_false]
    refine qzT l hp hl id rest (done ++ [q]) (i + 1) (by rw [h, ji]; rfl) (by rw [jf, jp]; omega) fun x hx => ?_
    rcases jn.1 hx with hx | hx
    · exact hd x hx
    · rw [jm.1 hx]
      exact hq
theorem qBx (l : List (Int × At)) (hp : l.Pairwise fun q r => q.1 < r.1) (hl : l.length ≤ 1000000000) (id : Int) : ∃ ok, qeG l id = some (l.filter (fun q => decide (q.1 ≠ id)), ok) := qzT l hp hl id l [] 0 rfl rfl fun q h => by cases h
abbrev ApR := Option (List (Int × At) × List qq × List Gl × Int)
theorem qzL {Q : List (Int × At) × List qq × List Gl × Int → Prop} {k : List (Int × At) → ApR} (ids : List Int) : ∀ (n i : Nat) (l : List (Int × At)), (l.Pairwise fun q r => q.1 < r.1) → l.length ≤ 1000000000 → i + n = ids.length → (Yl (k (yc l (ids.drop i))) Q) → Yl (qa0 k ids n l (i : Int)) Q
 | 0, i, l, _, _, hi, hk => by
  rw [qa0]
  rw [vV (by omega), yc] at hk
  exact hk
 | n + 1, i, l, hp, hl, hi, hk => by
  obtain ⟨x, hx, _⟩ := yw (l := ids) (i := (i : Int)) (by omega) (by omega)
  obtain ⟨ok, e⟩ := qBx l hp hl x
  rw [qa0, hx, ja, e, ja, show (i : Int) + 1 = ((i + 1 : Nat) : Int) by omega]
  have hle := List.length_filter_le (fun q : Int × At => decide (q.1 ≠ x)) l
  refine qzL ids n (i + 1) _ (hp.filter _) (by show (List.filter _ l).length ≤ _; omega) (by omega) ?_
  rw [qdy] at hx
  rw [jV (by omega), yc] at hk
  rw [jq (by omega)] at hx
  rw [Option.some.inj hx] at hk
  exact hk
theorem qzD {Q : List (Int × At) × List qq × List Gl × Int → Prop} {k : List Int → ApR} (hk : ∀ l, Yl (k l) Q) : ∀ (l : List (Int × At)) (left : List Int), left.length + l.length ≤ 1000000000 → Yl (qa1 k l left) Q
 | [], left, _ => by rw [qa1]; exact hk left
 | q :: l, left, h => by
  rw [jg] at h
  rw [qa1, qg5 (by omega) (n := l.length) (by omega), ja]
  exact qzD hk l _ (by rw [jf, jp]; omega)
theorem qrF {Q : List qq → Prop} {k : Bool → Option (List qq)} (hk : ∀ b, Yl (k b) Q) (ids : List Int) : ∀ (l : List Int) (b : Bool), Yl (qaZ k ids l b) Q
 | [], b => by rw [qaZ]; exact hk b
 | x :: l, b => by
  rw [qaZ]
  exact .cond (fun _ => .bind (qrz x ids) fun r _ => qrF hk ids l r) fun _ => qrF hk ids l false
theorem qqV (ids : List Int) : ∀ (l out : List qq), out.length + l.length ≤ 1000000000 → Yl (qaT (fun o => some o) ids l out) fun r => r.length ≤ out.length + l.length
 | [], out, _ => by rw [qaT]; exact .pure (by simp)
 | f :: l, out, h => by
  rw [jg] at h ⊢
  rw [qaT]
  refine qrF (fun b => .cond (fun _ => ?_) fun _ => (qqV ids l out (by omega)).mono fun r hr => by omega) ids _ true
  rw [qg5 (by omega) (n := l.length) (by omega), ja]
  exact (qqV ids l _ (by rw [jf, jp]; omega)).mono fun r hr => by rw [jf, jp] at hr; omega
theorem qyU (l : List qq) (hl : l.length ≤ 1000000) (ids : List Int) : Yl (qd3 l ids) fun r => r.length ≤ l.length := by
 unfold qd3
 exact (qqV ids l [] (by simp; omega)).mono fun r hr => by simpa using hr
theorem qxQ {Q : List qq × Int → Prop} {k : Int → Option (List qq × Int)} (f : qq) (N : Nat) (hk : ∀ i : Nat, i ≤ N → Yl (k (i : Int)) Q) : ∀ (l : List qq) (i : Nat), i + l.length ≤ N → Yl (qb5 k f l i) Q
 | [], i, h => by rw [qb5]; exact hk i (by simpa using h)
 | x :: l, i, h => by
  rw [jg] at h
  rw [qb5]
  exact .bind (qrA x f) fun _ _ => .cond (fun _ => qxQ f N hk l (i + 1) (by omega)) fun _ => hk i (by omega)
theorem qAm (l : List qq) (f : qq) : Yl (qez l f) fun _ => True := by
 unfold qez
 refine .bind (qw4 l) fun r hr => .cond (fun _ => .pure trivial) fun h => .bind (qqu f) fun _ _ => .cond (fun _ => .pure trivial) fun _ => .bind (qzR l f) fun _ _ => .cond (fun _ => .pure trivial) fun _ => .cond (fun _ => .pure trivial) fun _ => ?_
 have hl := (hr (nF h)).2
 refine qxQ f l.length (fun i hi => ?_) l 0 (by omega)
 have s1 : yt l 0 (i : Int) = some (l.take i) := by
  unfold yt
  rw [if_pos (by omega)]
  simp
 have s2 : yt l (i : Int) (l.length : Int) = some (l.drop i) := by
  unfold yt
  rw [if_pos (by omega)]
  simp
 rw [s1, ja, qrO (by omega) (by simp; omega), ja, qg5 (by omega) (n := 0) (by simp; omega), ja, s2, ja, qlZ (by omega) (by simp; omega), ja]
 exact .pure trivial
theorem qxj (fuel : Nat) (hf : 1500000000 < fuel) {env : En} (he : EnW 200 env) (fresh : Int) {Q : List (Int × At) × List qq × List Gl × Int → Prop} (hQ : Q ([], [], [], 6)) {k : List Gl → ApR} : ∀ (l out : List Gl), (∀ g ∈ l, wtL g.ts ≤ 200) → out.length + l.length ≤ 1000000000 → ((∀ g ∈ l, zz (inG (ef env fresh) g) = true) → Yl (k (out ++ l.map (inG (ef env fresh)))) Q) → Yl (qaA k env fresh fuel l out) Q
 | [], out, _, _, hk => by
  rw [qaA]
  have := hk fun g h => by cases h
  rw [vb, jx] at this
  exact this
 | g :: l, out, hw, hl, hk => by
  rw [jg] at hl
  have hg := hw g (jd ..)
  have h1 := qu4 (W := 200) (by omega) (fun v => qBP (by omega) he fresh v) g.ts
  have h2 : wtL g.ts * 200 ≤ 200 * 200 := jL _ hg
  rw [qaA, qui env fresh fuel g (by omega) (by omega), ja, qhf _ (show wtL (inL (ef env fresh) g.ts) ≤ 1000000000 by omega), ja]
  refine .cond (fun _ => .pure hQ) fun hr => ?_
  rw [qg5 (by omega) (n := l.length) (by omega), ja]
  refine qxj fuel hf he fresh hQ l _ (fun x hx => hw x (je _ hx)) (by rw [jf, jp]; omega) fun hl => ?_
  have := hk fun x hx => by
   rcases jh.1 hx with rfl | hx
   · exact nF hr
   · exact hl x hx
  rw [ji]
  exact this
theorem qvx (fuel : Nat) (hf : 1500000000 < fuel) {p : qn} (hp : yV p) {l : List (Int × At)} (hst : StOk l) (h : List qq) (hh : h.length ≤ 5000) (fresh : Int) (rule : Int) (r : qD) (hr : zj p.f1_Rules rule = some r) (ids : List Int) (env : En) (he : zan l r ids env) : Yl (qdN fuel p l h env fresh rule ids) fun e => e.2.2.2 = 0 → e.1 = yc l (ids.drop r.f1_Keep.length) ∧ e.2.2.1 = r.f4_Body.map (inG (ef env fresh)) ∧ ∀ g ∈ e.2.2.1, zz g = true := by
 have hrule := hp.r r (qeK hr)
 have hlen := he.len
 rw [jf] at hlen
 have hbl := hrule.bl
 have hsl := hst.n
 unfold qdN
 rw [hr, ja]
 refine .cond (fun _ => .pure fun h => absurd h (show ¬ (6 : Int) = 0 by omega)) fun _ => ?_
 rw [show ((ids.length : Int) - (r.f1_Keep.length : Int)).toNat = ids.length - r.f1_Keep.length by omega]
 have hrl : ∀ (xs : List Int) (l : List (Int × At)), (yc l xs).length ≤ l.length := fun xs => by
  induction xs with
  | nil => intro l; rw [yc]; exact jk _
  | cons x xs ih =>
   intro l
   have := ih (l.filter fun q => decide (q.1 ≠ x))
   have := List.length_filter_le (fun q : Int × At => decide (q.1 ≠ x)) l
   rw [yc]
   omega
 refine qzL ids _ _ l hst.s (by omega) (by omega) (qzD (fun left => .bind (qyU h (by omega) left) fun h' _ => ?_) _ [] (by have := hrl (ids.drop r.f1_Keep.length) l; simp; omega))
 have fin : ∀ h2 : List qq, Yl (qaA (fun body_22 => some (yc l (ids.drop r.f1_Keep.length), h2, body_22, 0)) env fresh fuel r.f4_Body []) fun e => e.2.2.2 = 0 → e.1 = yc l (ids.drop r.f1_Keep.length) ∧ e.2.2.1 = r.f4_Body.map (inG (ef env fresh)) ∧ ∀ g ∈ e.2.2.1, zz g = true := fun h2 => by
  refine qxj fuel hf he.w fresh (fun h => absurd h (show ¬ (6 : Int) = 0 by omega)) _ [] (fun g hg => (qhR (hrule.g g (jy _ hg))).2) (by simp; omega) fun hb => .pure fun _ => ⟨rfl, by simp, fun g hg => ?_⟩
  simp only [jo] at hg
  obtain ⟨x, hx, rfl⟩ := jA.1 hg
  exact hb x hx
 unfold qdY qaP
 rw [ja]
 exact .cond (fun _ => .bind (qAm _ _) fun r2 _ => .cond (fun _ => .pure fun h => absurd h (show ¬ (6 : Int) = 0 by omega)) fun _ => fin _) fun _ => fin _
def zaU (p : qn) (s : qw) (rule : Int) (ids : List Int) (t : qw) : Prop := ∃ r env, zj p.f1_Rules rule = some r ∧ zan s.f1_Store r ids env ∧ t.f1_Store = yc s.f1_Store (ids.drop r.f1_Keep.length) ∧ t.f0_Goals = s.f0_Goals ++ r.f4_Body.map (inG (ef env s.f6_Fresh))
theorem qzP : ∀ (xs : List Int) (l : List (Int × At)), ∀ q ∈ yc l xs, q ∈ l
 | [], l, q, h => by rw [yc] at h; exact h
 | x :: xs, l, q, h => by
  rw [yc] at h
  exact (vr.1 (qzP xs _ q h)).1
theorem qzC : ∀ (xs : List Int) (l : List (Int × At)), (yc l xs).length ≤ l.length
 | [], l => by rw [yc]; exact jk _
 | x :: xs, l => by
  have := qzC xs (l.filter fun q => decide (q.1 ≠ x))
  have := List.length_filter_le (fun q : Int × At => decide (q.1 ≠ x)) l
  rw [yc]
  omega
theorem qzj (fuel : Nat) (hf : 1500000000 < fuel) {p : qn} {s : qw} (hs : zR p s) (rule : Int) (r : qD) (hr : zj p.f1_Rules rule = some r) (ids : List Int) (env : En) (e : qbP fuel p s.f1_Store s.f2_Binds s.f4_Known s.f3_Fired rule ids = some (env, true)) (he : zan s.f1_Store r ids env) : Yl (qd8 fuel p s rule ids) fun t => t.2 = 0 → zaU p s rule ids t.1 ∧ zbG t.1 := by
 have hgl := hs.gl
 have hsl := hs.sd.st.n
 have hbl := (hs.pr.r r (qeK hr)).bl
 unfold qd8
 rw [e, ja]
 refine .bind (qvx fuel hf hs.pr hs.sd.st _ hs.sd.hl s.f6_Fresh rule r hr ids env he) fun q hq => .cond (fun _ => .pure fun h => absurd h (show ¬ (6 : Int) = 0 by omega)) fun h1 => .cond (fun _ => .pure fun h => absurd h (show ¬ (6 : Int) = 0 by omega)) fun h2 => ?_
 obtain ⟨a1, a2, a3⟩ := hq (bF h1)
 have h2 := dF h2
 have hb : q.2.2.1.length ≤ 12 := by rw [a2, jb]; omega
 rw [qhO (by omega)] at h2
 rw [qrO (by omega) (by omega), ja, qlZ (by omega) (by omega), ja, hr, ja]
 refine .pure fun _ => ⟨⟨r, env, hr, he, a1, by rw [← a2]⟩, fun g hg => ?_, fun x hx => ?_, ?_, ?_⟩
 · rcases jn.1 hg with hg | hg
   · exact (hs.g g hg).1
   · exact a3 g hg
 · rw [show (x ∈ q.1) = (x ∈ yc s.f1_Store (ids.drop r.f1_Keep.length)) by rw [a1]] at hx
   exact hs.sd.st.a x (qzP _ _ x hx)
 · show (s.f0_Goals ++ q.2.2.1).length ≤ 1000
   rw [jf]
   omega
 · show q.1.length ≤ 501
   rw [a1]
   have := qzC (ids.drop r.f1_Keep.length) s.f1_Store
   omega
/-! ### the moves of a state -/
theorem qzy {l : List (Int × At)} (hst : StOk l) (x : Int × At) (hx : wtL x.2.ts ≤ 200) : Yl (qey l x) fun r => r.2 = 0 → r.1 = l ++ [x] ∧ zn x.2 = true := by
 have hl := hst.n
 unfold qey
 refine .bind (qAg l fun q hq => by have := (qgp (hst.a q hq)).2.1; omega) fun _ _ => .cond (fun _ => .pure fun h => absurd h (show ¬ (2 : Int) = 0 by omega)) fun _ => ?_
 rw [qgn x.2 (by omega), ja]
 refine .cond (fun _ => .pure fun h => absurd h (show ¬ (2 : Int) = 0 by omega)) fun hr => .cond (fun _ => .pure fun h => absurd h (show ¬ (2 : Int) = 0 by omega)) fun _ => ?_
 have hr := nF hr
 have main : ∀ (k : Option (List (Int × At) × Int)) (_ : Yl k fun r => r.2 = 0 → r.1 = l ++ [x] ∧ zn x.2 = true) (m : List (Int × At)), Yl (qb3 k x m) fun r => r.2 = 0 → r.1 = l ++ [x] ∧ zn x.2 = true := fun k hk m => by
  induction m with
  | nil => rw [qb3]; exact hk
  | cons y m ih =>
   rw [qb3]
   exact .cond (fun _ => .pure fun h => absurd h (show ¬ (8 : Int) = 0 by omega)) fun _ => ih
 refine main _ (.cond (fun h => ?_) fun _ => .cond (fun _ => .pure fun h => absurd h (show ¬ (6 : Int) = 0 by omega)) fun _ => ?_) l
 · have h := dT h
   obtain ⟨y, hy, _⟩ := yw (l := l) (i := wr ((l.length : Int) - 1)) (by rw [qhO (by omega)]; omega) (by rw [qhO (by omega)]; omega)
   rw [hy, ja]
   refine .cond (fun _ => .pure fun h => absurd h (show ¬ (2 : Int) = 0 by omega)) fun _ => .cond (fun _ => .pure fun h => absurd h (show ¬ (6 : Int) = 0 by omega)) fun _ => ?_
   rw [qrO (by omega) (by omega), ja, qg5 (by omega) (n := 0) (by omega), ja]
   exact .pure fun _ => ⟨rfl, hr⟩
 · rw [qrO (by omega) (by omega), ja, qg5 (by omega) (n := 0) (by omega), ja]
   exact .pure fun _ => ⟨rfl, hr⟩
def yX (fuel : Nat) (p : qn) (s : qw) (m : qE) : Prop :=
 (m.f0_Kind = 1 ∧ ∃ g, zj s.f0_Goals m.f1_Goal = some g ∧ g.op ≠ 0) ∨ (m.f0_Kind = 2 ∧ ∃ g, zj s.f0_Goals m.f1_Goal = some g ∧ g.op = 0) ∨
 (m.f0_Kind = 3 ∧ ∃ r env, zj p.f1_Rules m.f2_Rule = some r ∧ qbP fuel p s.f1_Store s.f2_Binds s.f4_Known s.f3_Fired m.f2_Rule m.f3_IDs = some (env, true) ∧ zan s.f1_Store r m.f3_IDs env)
abbrev MvR := Option (List qE)
theorem qA5 {α : Type} {l : List α} {x : α} {n : Nat} (h : l.length + (n + 1) ≤ 2900000000000) : zN 48 l [x] = some (l ++ [x]) := by
 refine qme ?_ (by simp; omega)
 simp
 omega
theorem qAX {Q : List qE → Prop} {k : List qE → MvR} (P : qE → Prop) : ∀ (l : List Gl) (out : List qE) (i : Nat), out.length + l.length ≤ 1000000 → (∀ m ∈ out, P m) → (∀ j g, l[j]? = some g → g.op ≠ 0 → P ⟨1, ((i + j : Nat) : Int), 0, []⟩) → (∀ o, (∀ m ∈ o, P m) → o.length ≤ out.length + l.length → Yl (k o) Q) → Yl (qaX k l out i) Q
 | [], out, i, _, ho, _, hk => by rw [qaX]; exact hk out ho (by simp)
 | g :: l, out, i, hl, ho, hP, hk => by
  rw [jg] at hl hk
  have hP' : ∀ j g', l[j]? = some g' → g'.op ≠ 0 → P ⟨1, ((i + 1 + j : Nat) : Int), 0, []⟩ := fun j g' hj h0 => by
   have := hP (j + 1) g' (by simpa using hj) h0
   rw [show i + 1 + j = i + (j + 1) by omega]
   exact this
  rw [qaX]
  refine .cond (fun h => ?_) fun _ => qAX P l out (i + 1) (by omega) ho hP' fun o h1 h2 => hk o h1 (by omega)
  rw [qg5 (by omega) (n := l.length) (by omega), ja]
  refine qAX P l _ (i + 1) (by rw [jf, jp]; omega) (fun m hm => ?_) hP' fun o h1 h2 => hk o h1 (by rw [jf, jp] at h2; omega)
  rcases jn.1 hm with hm | hm
  · exact ho m hm
  · rw [jm.1 hm]
    exact hP 0 g rfl (bT h)
theorem qAz {Q : List qE → Prop} {k : List qE → MvR} (P : qE → Prop) : ∀ (l : List Gl) (out : List qE) (i : Nat), out.length + l.length ≤ 1000000 → (∀ m ∈ out, P m) → (∀ j g, l[j]? = some g → g.op = 0 → P ⟨2, ((i + j : Nat) : Int), 0, []⟩) → (∀ o, (∀ m ∈ o, P m) → o.length ≤ out.length + l.length → Yl (k o) Q) → Yl (qaV k l out i) Q
 | [], out, i, _, ho, _, hk => by rw [qaV]; exact hk out ho (by simp)
 | g :: l, out, i, hl, ho, hP, hk => by
  rw [jg] at hl hk
  have hP' : ∀ j g', l[j]? = some g' → g'.op = 0 → P ⟨2, ((i + 1 + j : Nat) : Int), 0, []⟩ := fun j g' hj h0 => by
   have := hP (j + 1) g' (by simpa using hj) h0
   rw [show i + 1 + j = i + (j + 1) by omega]
   exact this
  rw [qaV]
  refine .cond (fun h => ?_) fun _ => qAz P l out (i + 1) (by omega) ho hP' fun o h1 h2 => hk o h1 (by omega)
  rw [qg5 (by omega) (n := l.length) (by omega), ja]
  refine qAz P l _ (i + 1) (by rw [jf, jp]; omega) (fun m hm => ?_) hP' fun o h1 h2 => hk o h1 (by rw [jf, jp] at h2; omega)
  rcases jn.1 hm with hm | hm
  · exact ho m hm
  · rw [jm.1 hm]
    exact hP 0 g rfl (eT h)
theorem qBZ {Q : List qE → Prop} {k : List qE → MvR} (P : qE → Prop) (i : Nat) : ∀ (l : List (List Int)) (out : List qE), out.length + l.length ≤ 2800000000000 → (∀ m ∈ out, P m) → (∀ x ∈ l, P ⟨3, 0, (i : Int), x⟩) → (∀ o, (∀ m ∈ o, P m) → o.length ≤ out.length + l.length → Yl (k o) Q) → Yl (qbA k i l out) Q
 | [], out, _, ho, _, hk => by rw [qbA]; exact hk out ho (by simp)
 | x :: l, out, hl, ho, hP, hk => by
  rw [jg] at hl hk
  rw [qbA, qA5 (n := l.length) (by omega), ja]
  refine qBZ P i l _ (by rw [jf, jp]; omega) (fun m hm => ?_) (fun y hy => hP y (je _ hy)) fun o h1 h2 => hk o h1 (by rw [jf, jp] at h2; omega)
  rcases jn.1 hm with hm | hm
  · exact ho m hm
  · rw [jm.1 hm]
    exact hP x (jd ..)
theorem qBq (fuel : Nat) (hf : 1500000000 < fuel) {p : qn} {s : qw} (hs : zR p s) : ∀ (l : List qD) (out : List qE) (i : Nat), p.f1_Rules.drop i = l → out.length + l.length * 62500000000 ≤ 2700000000000 → (∀ m ∈ out, yX fuel p s m) → Yl (qbt (fun o => some o) fuel p s l out i) fun o => ∀ m ∈ o, yX fuel p s m
 | [], out, i, _, _, ho => by rw [qbt]; exact .pure ho
 | r :: l, out, i, hd, hl, ho => by
  rw [jg] at hl
  have hi : i < p.f1_Rules.length := by
   rcases Nat.lt_or_ge i p.f1_Rules.length with h | h
   · exact h
   · rw [j2 h] at hd
     cases hd
  rw [jV hi] at hd
  obtain ⟨hd1, hd2⟩ := List.cons.inj hd
  have hg : zj p.f1_Rules (i : Int) = some r := by rw [qdy, jq hi, hd1]
  rw [qbt]
  refine .bind (qvh fuel hf hs.pr hs.sd.st.n hs.sw hs.bw _ hs.kw _ (i : Int) r hg) fun c hc => qBZ (yX fuel p s) i c out (by omega) ho (fun x hx => ?_) fun o h1 h2 => qBq fuel hf hs l o (i + 1) hd2 (by omega) h1
  obtain ⟨env, e, he⟩ := hc.2 x hx
  exact .inr (.inr ⟨rfl, r, env, hg, e, he⟩)
theorem quU (fuel : Nat) (hf : 1500000000 < fuel) {p : qn} (hp : BkP p) {s : qw} (hs : zR p s) : Yl (qdx fuel p s) fun o => ∀ m ∈ o, yX fuel p s m := by
 have hgl := hs.gl
 have hpl := hs.pr.l
 unfold qdx
 refine .bind (qqD fuel (by omega) p hp s hs.bk) fun _ _ => .cond (fun _ => .pure fun m h => by cases h) fun _ => .cond (fun _ => .pure fun m h => by cases h) fun _ => ?_
 refine qAX (yX fuel p s) _ [] 0 (by simp; omega) (fun m h => by cases h) (fun j g hj h0 => .inl ⟨rfl, g, by rw [jt]; show zj _ (j : Int) = _; rw [qdy]; exact hj, h0⟩) fun o h1 h2 => ?_
 refine qAz (yX fuel p s) _ o 0 (by simp at h2; omega) h1 (fun j g hj h0 => .inr (.inl ⟨rfl, g, by rw [jt]; show zj _ (j : Int) = _; rw [qdy]; exact hj, h0⟩)) fun o' h3 h4 => ?_
 exact qBq fuel hf hs _ o' 0 (by rw [vd]) (by simp at h2; omega) h3
def za3 (s : qw) (k : Int) (t : qw) : Prop := ∃ g, zj s.f0_Goals k = some g ∧ g.op = 0 ∧ t.f0_Goals = s.f0_Goals.eraseIdx k.toNat ∧ t.f1_Store = s.f1_Store ++ [(s.f5_Next, ⟨g.n, g.ts⟩)]
def StpOk (p : qn) (s : qw) (m : qE) (t : qw) : Prop :=
 ((m.f0_Kind = 1 ∧ zbz s m.f1_Goal t) ∨ (m.f0_Kind = 2 ∧ za3 s m.f1_Goal t) ∨ (m.f0_Kind = 3 ∧ zaU p s m.f2_Rule m.f3_IDs t)) ∧ zbG t
theorem qr4 (b : List Int) : ∀ (l : List Int) (i : Nat), i + l.length = b.length → Yl (qbM (some true) b l i) fun _ => True
 | [], i, _ => by rw [qbM]; exact .pure trivial
 | x :: l, i, h => by
  rw [jg] at h
  obtain ⟨y, hy, _⟩ := yw (l := b) (i := (i : Int)) (by omega) (by omega)
  rw [qbM, hy, ja]
  exact .cond (fun _ => .pure trivial) fun _ => qr4 b l (i + 1) (by omega)
theorem qtM (a b : qE) : Yl (qdA a b) fun _ => True := by
 unfold qdA
 refine .cond (fun _ => .cond (fun _ => .cond (fun _ => .bind (R := fun _ => True) ?_ fun _ _ => .pure trivial) fun _ => .pure trivial) fun _ => .pure trivial) fun _ => .pure trivial
 unfold qe6
 exact .cond (fun _ => .pure trivial) fun h => qr4 _ _ 0 (by have := bF h; omega)
theorem qAM {k : Bool → Option (qw × Int)} {Q : qw × Int → Prop} (hk : ∀ b, Yl (k b) Q) (m : qE) : ∀ (l : List qE) (b : Bool), Yl (qbF k m l b) Q
 | [], b => by rw [qbF]; exact hk b
 | x :: l, b => by
  rw [qbF]
  exact .bind (qtM x m) fun _ _ => .cond (fun _ => qAM hk m l true) fun _ => qAM hk m l b
theorem qCk (fuel : Nat) (hf : 1500000000 < fuel) {p : qn} (hp : BkP p) {s : qw} (hs : zR p s) (m : qE) (hm : yX fuel p s m) : Yl (qeN fuel p s m) fun r => r.2 = 0 → r.1.f7_Failed = false → StpOk p s m r.1 := by
 have hgl := hs.gl
 have hsl := hs.sd.st.n
 unfold qeN
 refine .bind (qqD fuel (by omega) p hp s hs.bk) fun _ _ => .cond (fun _ => .pure fun h => absurd h (show ¬ (2 : Int) = 0 by omega)) fun _ => .cond (fun _ => .pure fun h => absurd h (show ¬ (14 : Int) = 0 by omega)) fun _ => .bind (quU fuel hf hp hs) fun l _ => qAM (fun b => .cond (fun _ => .pure fun h => absurd h (show ¬ (18 : Int) = 0 by omega)) fun _ => ?_) m l false
 rcases hm with ⟨h1, g, hg, h0⟩ | ⟨h1, g, hg, h0⟩ | ⟨h1, r, env, hr, e, he⟩
 · rw [uT h1, cond_true]
   exact .bind (qzo fuel hf hs m.f1_Goal g hg h0) fun r hr => .pure fun a b => ⟨.inl ⟨h1, (hr a b).1⟩, (hr a b).2⟩
 · rw [uF (show m.f0_Kind ≠ 1 by omega), cond_false, uF (show m.f0_Kind ≠ 3 by omega), cond_false, hg, ja]
   have hgm := qeK hg
   have hk0 := (qkf hg).1
   refine .bind (qzy hs.sd.st (s.f5_Next, ⟨g.n, g.ts⟩) (hs.gw g hgm)) fun r hr => .cond (fun _ => .pure fun h => absurd h (show ¬ (6 : Int) = 0 by omega)) fun h2 => .cond (fun _ => .pure fun h => absurd h (show ¬ (6 : Int) = 0 by omega)) fun _ => ?_
   obtain ⟨a1, a2⟩ := hr (bF h2)
   have hel : (s.f0_Goals.eraseIdx m.f1_Goal.toNat).length ≤ s.f0_Goals.length := List.length_eraseIdx_le ..
   rw [qwM _ _ hk0 (by omega), ja]
   refine .pure fun _ _ => ⟨.inr (.inl ⟨h1, g, hg, h0, rfl, a1⟩), fun x hx => (hs.g x (Jf hx)).1, fun q hq => ?_, by show (List.eraseIdx _ _).length ≤ _; omega, ?_⟩
   · rw [show (q ∈ r.1) = (q ∈ s.f1_Store ++ [(s.f5_Next, (⟨g.n, g.ts⟩ : At))]) by rw [a1]] at hq
     rcases jn.1 hq with hq | hq
     · exact hs.sd.st.a q hq
     · rw [jm.1 hq]
       exact a2
   · show r.1.length ≤ 501
     rw [a1, jf, jp]
     omega
 · rw [uF (show m.f0_Kind ≠ 1 by omega), cond_false, uT h1, cond_true]
   exact .bind (qzj fuel hf hs m.f2_Rule r hr m.f3_IDs env e he) fun t ht => .pure fun a _ => ⟨.inr (.inr ⟨h1, (ht a).1⟩), (ht a).2⟩
/-! ### numbers that wrap -/
theorem qA2 (a b : Int) : wr (wr a + b) = wr (a + b) := by
 simp only [wr, IntKind.wrap, IntKind.bits, IntKind.signed]
 simp
 split <;> split <;> split <;> omega
theorem qCj (a : Int) : wr (wr a) = wr a := qmr _ _
/-! ### the weight of what is small -/
def Bf (a : At) : Prop := wtL a.ts ≤ 1048576
theorem Bf.wt {a : At} (h : Bf a) : wtL a.ts ≤ 1048576 := h
theorem qv5 {t : T} : ∀ {l : List T}, t ∈ l → Go.Proofs.YtlfcjfiecoapoaaGreat.wt t ≤ wtL l
 | u :: l, h => by
  simp only [wtL]
  rcases jh.1 h with rfl | h
  · omega
  · have := qv5 h; omega
theorem Bf.one {a : At} (h : Bf a) : ∀ t ∈ a.ts, Go.Proofs.YtlfcjfiecoapoaaGreat.wt t ≤ 1048576 := fun t ht => vu (qv5 ht) h
theorem qB8 {a : At} (h : a.ts.length ≤ 10 ∧ ∀ t ∈ a.ts, Go.Proofs.YtlfcjfiecoapoaaGreat.wt t ≤ 1000) : Bf a := by
 have : ∀ l : List T, (∀ t ∈ l, Go.Proofs.YtlfcjfiecoapoaaGreat.wt t ≤ 1000) → wtL l ≤ 1000 * l.length := by
  intro l
  induction l with
  | nil => intro _; simp [wtL]
  | cons t l ih =>
   intro h
   have h1 := h t (jd ..)
   have h2 := ih fun u hu => h u (je _ hu)
   simp only [wtL, jg]
   omega
 have := this a.ts h.2
 have := h.1
 unfold Bf
 omega
/-! ### rankings -/
def zbo (s : ByteArray) (n : Int) (r : qj) : Bool := (r.f0_Name.toList == s.toList) && ((r.f2_Factors.length : Int) == n)
def zE (l : List qj) (s : ByteArray) (n : Int) : qj × Bool := match l.find? (zbo s n) with
 | some r => (r, true)
 | none => (⟨⟨#[]⟩, 0, []⟩, false)
theorem qqk (s : ByteArray) (n : Int) : ∀ l, qer l s n = some (zE l s n) := by
 intro l
 rw [qer]
 induction l with
 | nil => rw [qbN]; rfl
 | cons r l ih =>
  rw [qbN, ih]
  cases h1 : (r.f0_Name.toList == s.toList) <;> cases h2 : ((r.f2_Factors.length : Int) == n) <;> simp [zE, List.find?, zbo, h1, h2]
theorem qyi (s : ByteArray) (n : Int) (r : qj) : qg8 r s n = some (zbo s n r) := by
 rw [qg8, zbo]
 cases h1 : (r.f0_Name.toList == s.toList) <;> rfl
theorem qsd (s : ByteArray) (n : Int) : ∀ (l : List qj) (i : Nat), (l.find? (zbo s n) = none ∧ qbm (some (-1)) s n l i = some (-1)) ∨ ∃ j r, l.find? (zbo s n) = some r ∧ l[j]? = some r ∧ qbm (some (-1)) s n l i = some ((i + j : Nat) : Int)
 | [], i => .inl ⟨rfl, by rw [qbm]⟩
 | r :: l, i => by
  rw [qbm, qyi]
  simp only [ja, List.find?]
  cases h : zbo s n r with
  | true => exact .inr ⟨0, r, rfl, rfl, rfl⟩
  | false =>
   rcases qsd s n l (i + 1) with ⟨e1, e2⟩ | ⟨j, q, e1, e2, e3⟩
   · exact .inl ⟨e1, e2⟩
   · exact .inr ⟨j + 1, q, e1, by simpa using e2, by rw [show i + (j + 1) = i + 1 + j by omega]; exact e3⟩
theorem qoI (l : List qj) (s : ByteArray) (n : Int) : qeR l s n = some (zE l s n) := by
 rw [qeR, qfe, zE]
 rcases qsd s n l 0 with ⟨e1, e2⟩ | ⟨j, q, e1, e2, e3⟩
 · rw [e2, e1]; rfl
 · rw [e3, e1]
   simp only [ja, jt]
   rw [decide_eq_false (by omega), qdy, e2]
   rfl
def zbD (n : Int) : Bool := decide (0 ≤ n ∧ n ≤ 1048576)
def zL (r : qj) : Bool := zbD r.f1_Const && decide (r.f2_Factors.length ≤ 6) && r.f2_Factors.all zbD
theorem qzQ (n : Int) : qfQ n = some (!zbD n) := by
 rw [qfQ, zbD]
 by_cases h : n < 0
 · rw [decide_eq_true h, decide_eq_false (show ¬ (0 ≤ n ∧ n ≤ 1048576) by omega)]; rfl
 · rw [decide_eq_false h]
   by_cases h2 : n > 1048576
   · rw [decide_eq_true h2, decide_eq_false (show ¬ (0 ≤ n ∧ n ≤ 1048576) by omega)]; rfl
   · rw [decide_eq_false h2, decide_eq_true (show 0 ≤ n ∧ n ≤ 1048576 by omega)]; rfl
theorem qr9 : ∀ (l : List Int) (i : Nat), ∃ r, qbX (some (-1)) l i = some r ∧ (decide (r ≥ 0) = !l.all zbD)
 | [], i => ⟨-1, by rw [qbX], rfl⟩
 | n :: l, i => by
  rw [qbX, qzQ]
  simp only [ja, List.all_cons]
  cases h : zbD n with
  | false => exact ⟨(i : Int), rfl, by simp⟩
  | true =>
   obtain ⟨r, e1, e2⟩ := qr9 l (i + 1)
   exact ⟨r, e1, by simpa using e2⟩
theorem qnB (r : qj) : qfU r = some (zL r) := by
 rw [qfU, qzQ, zL]
 simp only [ja, Bool.not_not]
 cases h : zbD r.f1_Const with
 | false => rfl
 | true =>
  by_cases h2 : (r.f2_Factors.length : Int) ≤ 6
  · rw [decide_eq_true h2, decide_eq_true (show r.f2_Factors.length ≤ 6 by omega), qeC, qfd]
    obtain ⟨q, e1, e2⟩ := qr9 r.f2_Factors 0
    rw [e1]
    simp [e2]
  · rw [decide_eq_false h2, decide_eq_false (show ¬ r.f2_Factors.length ≤ 6 by omega)]
    simp
theorem qqG (l : List qj) : qf6 l = some (l.all zL) := by
 rw [qf6]
 induction l with
 | nil => rw [qet]; rfl
 | cons r l ih =>
  rw [qet, qnB, ih, List.all_cons]
  simp only [ja]
  cases zL r <;> rfl
/-! ### the variables of the reference -/
/-! ### the rank of a constraint -/
def zaI : List Int → List T → Int → Int
 | f :: fs, t :: ts, n => zaI fs ts (wr (n + wr (f * (zl t : Int))))
 | _, _, n => n
theorem qBo (k : Int → Option (Int × Bool)) (r : qj × Bool) : ∀ (ts : List T) (n : Int) (i : Nat), (∀ t ∈ ts, wt t ≤ 1000000000) → (r.1.f2_Factors.drop i).length = ts.length → qe4 k r ts n i = k (zaI (r.1.f2_Factors.drop i) ts n)
 | [], n, i, _, _ => by rw [qe4]; cases r.1.f2_Factors.drop i <;> rfl
 | t :: ts, n, i, hw, hl => by
  have hi : i < r.1.f2_Factors.length := by simp only [vc, jg] at hl; omega
  have hd := jV hi
  rw [qe4, qdy, jq hi, qlR t (hw t (jd ..))]
  simp only [ja]
  rw [qBo k r ts _ (i + 1) (fun u hu => hw u (je _ hu)) (by simp only [vc, jg] at hl ⊢; omega), hd]
  rfl
theorem qub (k : Int → Option Int) (args : List T) : ∀ (fs : List Int) (n : Int) (i : Nat), (∀ t ∈ args, wt t ≤ 1000000000) → fs.length = (args.drop i).length → qaC k args fs n i = k (zaI fs (args.drop i) n)
 | [], n, i, _, _ => by rw [qaC]; rfl
 | f :: fs, n, i, hw, hl => by
  have hi : i < args.length := by simp only [vc, jg] at hl; omega
  have hd := jV hi
  rw [qaC, qdy, jq hi]
  simp only [ja]
  rw [qlR _ (hw _ (List.getElem_mem hi))]
  simp only [ja]
  rw [qub k args fs _ (i + 1) hw (by simp only [vc, jg] at hl ⊢; omega), hd]
  rfl
theorem qmQ {l : List qj} {s : ByteArray} {n : Int} (h : (zE l s n).2 = true) : ((zE l s n).1.f2_Factors.length : Int) = n ∧ (zE l s n).1 ∈ l := by
 unfold zE at h ⊢
 cases e : l.find? (zbo s n) with
 | none => rw [e] at h; cases h
 | some r =>
  have h1 := List.find?_some e
  simp only [zbo, jj, beq_iff_eq] at h1
  exact ⟨h1.2, List.mem_of_find?_eq_some e⟩
noncomputable def ofS (l : List qj) (a : At) : Int × Bool :=
 if (zE l a.n (a.ts.length : Int)).2 && zL (zE l a.n (a.ts.length : Int)).1 && zn a && decide (yj [] (zw a.ts) = []) then (zaI (zE l a.n (a.ts.length : Int)).1.f2_Factors a.ts (zE l a.n (a.ts.length : Int)).1.f1_Const, true) else (0, false)
theorem qA9 (l : List Int) : decide ((l.length : Int) > 0) = !decide (l = []) := by
 cases l with
 | nil => rfl
 | cons a l => simp
theorem qAS (l : List qj) (a : At) (h : Bf a) : qgz l a = some (ofS l a) := by
 have hw := h.wt
 rw [qgz, qoI, ofS]
 simp only [ja]
 cases h1 : (zE l a.n (a.ts.length : Int)).2 with
 | false => simp
 | true =>
  simp only [jG, cond_false, qnB, ja, jR]
  cases h2 : zL (zE l a.n (a.ts.length : Int)).1 with
  | false => simp
  | true =>
   simp only [jG, cond_false, qgn a (by omega), qiR a (by omega), ja, jR]
   cases h3 : zn a with
   | false => simp
   | true =>
    simp only [jG, cond_false, qA9, jR]
    by_cases h4 : yj [] (zw a.ts) = []
    · simp only [h4, decide_true, jG, cond_false, if_true]
      rw [qBo _ _ a.ts _ 0 (fun t ht => by have := h.one t ht; omega) (by have := (qmQ h1).1; simp; omega)]
      rfl
    · simp [h4]
/-! ### the sum -/
noncomputable def totZ (ranks : List qj) : List At → Int → Int × Int
 | [], n => (n, 0)
 | a :: l, n => if (ofS ranks a).2 then totZ ranks l (wr (n + (ofS ranks a).1)) else (0, if zn a then if (zE ranks a.n (a.ts.length : Int)).2 then 17 else 13 else 2)
noncomputable def totS (ranks : List qj) (l : List At) : Int × Int := if ranks.all zL then totZ ranks l 0 else (0, 2)
theorem qt3 (ranks : List qj) : ∀ (l : List At) (n : Int), (∀ a ∈ l, Bf a) → qd0 (fun all_5 => some (all_5, 0)) ranks l n = some (totZ ranks l n)
 | [], n, _ => by rw [qd0]; rfl
 | a :: l, n, h => by
  have ha := h a (jd ..)
  have hw := ha.wt
  rw [qd0, qAS ranks a ha, totZ]
  simp only [ja, qoI, qgn a (show wtL a.ts ≤ 1000000000 by omega)]
  cases h1 : (ofS ranks a).2 with
  | true => simpa using qt3 ranks l _ fun b hb => h b (je _ hb)
  | false =>
   cases h2 : zn a <;> cases h3 : (zE ranks a.n (a.ts.length : Int)).2 <;> simp
theorem qy6 (ranks : List qj) (l : List At) (h : ∀ a ∈ l, Bf a) : qgC ranks l = some (totS ranks l) := by
 rw [qgC, qqG, totS, qt3 ranks l 0 h]
 simp only [ja]
 cases ranks.all zL <;> rfl
theorem qwY {Q R : Type} (F : List Q → Option R) : zap F [] = F [] := by
 unfold zap
 rw [if_pos fun l' hp => by rw [hp.eq_nil]]
theorem qxB {Q R : Type} (F : List Q → Option R) (q : Q) : zap F [q] = F [q] := by
 unfold zap
 rw [if_pos fun l' hp => by rw [List.perm_singleton.1 hp]]
/-! ### the examples -/
def lkV (n : Int) : T := .mk 1 n ⟨#[]⟩ []
def lkF (t : T) : T := .mk 2 0 ⟨#[102]⟩ [t]
def lkP (t : T) : At := ⟨⟨#[112]⟩, [t]⟩
def lkR : qj := ⟨⟨#[112]⟩, 0, [1]⟩
theorem lk_f : zF ⟨#[102]⟩ = true := qqa (by decide)
theorem lk_p : zF ⟨#[112]⟩ = true := qqa (by decide)
theorem qsn : zn (lkP (lkV 0)) = true := by simp [zn, zY, lkP, lkV, zI, zK, zm, zl, zH, yg, lk_p]
theorem qwe : zn (lkP (lkV 1)) = true := by simp [zn, zY, lkP, lkV, zI, zK, zm, zl, zH, yg, lk_p]
theorem qlJ : zn (lkP (lkF (lkV 0))) = true := by simp [zn, zY, lkP, lkV, lkF, zI, zK, zm, zl, zH, yg, lk_p, lk_f]
theorem qwq : zn (lkP (lkF (.mk 0 7 ⟨#[]⟩ []))) = true := by simp [zn, zY, lkP, lkF, zI, zK, zm, zl, zH, yg, lk_p, lk_f]
theorem qrQ : zE [lkR] ⟨#[112]⟩ 1 = (lkR, true) := by simp [zE, List.find?, zbo, lkR]
theorem qx8 : zL lkR = true := by decide
theorem qAu (t : T) (h : Go.Proofs.YtlfcjfiecoapoaaGreat.wt t ≤ 1000) : Bf (lkP t) := qB8 ⟨by simp [lkP], fun u hu => by simp only [lkP, jm] at hu; subst hu; exact h⟩
theorem qBR : ofS [lkR] (lkP (lkF (.mk 0 7 ⟨#[]⟩ []))) = (2, true) := by
 unfold ofS
 rw [qwq]
 simp only [lkP, jp, Int.natCast_one, Int.cast_ofNat_Int, qrQ, qx8]
 decide
theorem qzZ : ofS [lkR] (lkP (lkF (lkV 0))) = (0, false) := by
 unfold ofS
 rw [qlJ]
 simp only [lkP, jp, Int.natCast_one, Int.cast_ofNat_Int, qrQ, qx8]
 decide
theorem qB7 : totS [lkR] [lkP (lkF (lkV 0))] = (0, 17) := by
 simp [totS, qx8, totZ, qzZ, qlJ]
 simp [lkP, qrQ]
def yM (a b : T) (n : Int) : qD := ⟨⟨#[]⟩, [], [lkP a], [], [⟨0, ⟨#[112]⟩, [b]⟩], n⟩
theorem quI : qh9 (lkP (lkV 0)) = some [0] := by rw [qiR _ (by decide)]; decide
theorem qyJ : qh9 (lkP (lkV 1)) = some [1] := by rw [qiR _ (by decide)]; decide
theorem qrD : qh9 (lkP (lkF (lkV 0))) = some [0] := by rw [qiR _ (by decide)]; decide
theorem qsw (a b : T) (n : Int) (h : qh9 (lkP a) = some [0]) : qeA (yM a b n) = some ([(0, true)], []) := by
 simp [qeA, qgb, qg7, yM, zac, zN, qcc, qX, qcu, wr, IntKind.wrap, IntKind.bits, IntKind.signed, h, zab, yS]
theorem qu2 : qeR [lkR] ⟨#[112]⟩ 1 = some (lkR, true) := by rw [qoI, qrQ]
theorem qzM (m : Nat) (t : T) (times c : Int) (s : List (Int × Int)) (hr : zn (lkP t) = true) (hw : Go.Proofs.YtlfcjfiecoapoaaGreat.wt t ≤ 1000) : qcv (m + 20) [lkR] (lkP t) times c s = (qal (m + 20) t (wr (times * 1)) (wr (c + wr (times * 0))) s).bind fun r => some (true, r.1, r.2) := by
 rw [qcv]
 have h1 : qeR [lkR] (lkP t).n ((lkP t).ts.length : Int) = some (lkR, true) := qu2
 rw [h1]
 simp only [ja, qnB, qx8, jG, cond_false, qgn (lkP t) (by simp only [lkP, wtL]; omega), hr]
 rw [lkP, qbw]
 simp only [qbw]
 rfl
theorem qlP (m : Nat) (n times c : Int) (s : List (Int × Int)) (hs : s.length < 100) : qal (m + 1) (lkV n) times c s = some (c, yS s n (wr (((zp s n).getD 0) + times))) := by
 rw [qal]
 simp only [lkV, T.k, T.i, beq_self_eq_true, cond_true, zab]
 rw [if_pos (by omega)]
 rfl
theorem qrl (m : Nat) (t : T) (times c : Int) (s : List (Int × Int)) : qal (m + 1) (lkF t) times c s = (qal m t times (wr (c + times)) s).bind fun r => some (r.1, r.2) := by
 rw [qal]
 show qaM _ _ _ _ _ _ = _
 rw [lkF, T.ar, qaM]
 rfl
theorem qvV (m : Nat) (a b : T) (n : Int) (h : qh9 (lkP a) = some [0]) (ha : zn (lkP a) = true) (hb : zn (lkP b) = true) (hwa : Go.Proofs.YtlfcjfiecoapoaaGreat.wt a ≤ 1000) (hwb : Go.Proofs.YtlfcjfiecoapoaaGreat.wt b ≤ 1000) {v : Int} (hv : qh9 (lkP b) = some [v]) {c1 c2 : Int} {s1 s2 : List (Int × Int)}
 (h1 : qal (m + 20) a 1 0 [] = some (c1, s1)) (h2 : qal (m + 20) b (-1) (wr c1) s1 = some (c2, s2)) :
 qck (m + 20) [lkR] (yM a b n) = if v = 0 then qcN (fun l => bif decide (l ≥ 1) then some true else some false) ([(0, true)], []) s2 c2 else some false := by
 rw [qck, qsw a b n h]
 simp only [ja]
 rw [show (yM a b n).f2_Remove = [lkP a] from rfl, show (yM a b n).f4_Body = [⟨0, ⟨#[112]⟩, [b]⟩] from rfl, qbS, qzM m a 1 0 [] ha hwa]
 rw [show wr (1 * 1) = 1 by decide, show wr (0 + wr (1 * 0)) = 0 by decide, h1]
 simp only [ja, jG, cond_false, qbS, qao]
 show (qh9 (lkP b)).bind (fun r_30 => qbT ((qcv (m+20) [lkR] (lkP b) (-1) c1 s1).bind fun r_32 => bif !r_32.1 then some false else qcN (fun l => bif decide (l ≥ 1) then some true else some false) ([(0,true)],[]) r_32.2.2 r_32.2.1) ([(0,true)],[]) r_30) = _
 rw [hv, qzM m b (-1) c1 s1 hb hwb, show wr (-1 * 1) = -1 by decide, show wr (-1 * 0) = 0 by decide, vf, h2]
 simp only [ja, qbT, jG, cond_false]
 by_cases h0 : v = 0
 · subst h0
   rw [if_pos rfl]
   rfl
 · rw [if_neg h0]
   have : zp [((0 : Int), true)] v = none := by simp [zp, show ¬ (0 : Int) = v from fun e => h0 e.symm]
   simp only [this]
   rfl
theorem qBH (comp : List (Int × Bool)) (hc : comp = []) (c : Int) : ∀ s : List (Int × Int), s.length ≤ 1 → qcN (fun l => bif decide (l ≥ 1) then some true else some false) ([(0, true)], comp) s c = match s with
 | [] => some (decide (c ≥ 1))
 | q :: _ => some (!decide (q.2 < 0) && decide (wr (c + q.2) ≥ 1)) := by
 subst hc
 intro s hs
 match s, hs with
 | [], _ =>
  rw [qcN, qwY, zP, qcL]
  cases decide (c ≥ 1) <;> rfl
 | [q], _ =>
  show _ = some (!decide (q.2 < 0) && decide (wr (c + q.2) ≥ 1))
  rw [qcN, qxB, zP, qdb]
  cases h : decide (q.2 < 0) with
  | true => rfl
  | false =>
   simp only [cond_false, ja, yW, zP, qcL]
   cases decide (wr (c + q.2) ≥ 1) <;> rfl
 | _ :: _ :: _, h => simp at h
theorem qA3 (m : Nat) : qck (m + 20) [lkR] (yM (lkF (lkV 0)) (lkV 0) 1) = some true := by
 rw [qvV m _ _ 1 qrD qlJ qsn (by decide) (by decide) quI (c1 := 1) (s1 := [(0, 1)]) (c2 := 1) (s2 := [(0, 0)]) (by rw [qrl, qlP _ _ _ _ _ (by decide)]; decide) (by rw [qlP _ _ _ _ _ (by decide)]; decide), if_pos rfl, qBH [] rfl _ _ (by decide)]
 decide
theorem qCc (m : Nat) : qck (m + 20) [lkR] (yM (lkV 0) (lkF (lkV 0)) 1) = some false := by
 rw [qvV m _ _ 1 quI qsn qlJ (by decide) (by decide) qrD (c1 := 0) (s1 := [(0, 1)]) (c2 := -1) (s2 := [(0, 0)]) (by rw [qlP _ _ _ _ _ (by decide)]; decide) (by rw [qrl, qlP _ _ _ _ _ (by decide)]; decide), if_pos rfl, qBH [] rfl _ _ (by decide)]
 decide
theorem qAj (m : Nat) : qck (m + 20) [lkR] (yM (lkF (lkV 0)) (lkV 1) 2) = some false := by
 rw [qvV m _ _ 2 qrD qlJ qwe (by decide) (by decide) qyJ (c1 := 1) (s1 := [(0, 1)]) (c2 := 1) (s2 := [(0, 1), (1, -1)]) (by rw [qrl, qlP _ _ _ _ _ (by decide)]; decide) (by rw [qlP _ _ _ _ _ (by decide)]; decide), if_neg (by decide)]
theorem qzq (m : Nat) : qaN (m + 20) = some true := by
 have o1 : qgz [(⟨⟨#[112]⟩, 0, [1]⟩ : qj)] (⟨⟨#[112]⟩, [(T.mk 2 0 ⟨#[102]⟩ [(T.mk 0 7 ⟨#[]⟩ [])])]⟩ : At) = some (2, true) := (qAS [lkR] (lkP (lkF (.mk 0 7 ⟨#[]⟩ []))) (qAu _ (by decide))).trans (by rw [qBR])
 have o2 : qgz [(⟨⟨#[112]⟩, 0, [1]⟩ : qj)] (⟨⟨#[112]⟩, [(T.mk 2 0 ⟨#[102]⟩ [(T.mk 1 0 ⟨#[]⟩ [])])]⟩ : At) = some (0, false) := (qAS [lkR] (lkP (lkF (lkV 0))) (qAu _ (by decide))).trans (by rw [qzZ])
 have o3 : qgC [(⟨⟨#[112]⟩, 0, [1]⟩ : qj)] [(⟨⟨#[112]⟩, [(T.mk 2 0 ⟨#[102]⟩ [(T.mk 1 0 ⟨#[]⟩ [])])]⟩ : At)] = some (0, 17) := (qy6 [lkR] [lkP (lkF (lkV 0))] (fun a ha => by rw [jm.1 ha]; exact qAu _ (by decide))).trans (by rw [qB7])
 have d1 := qA3 m
 have d2 := qCc m
 have d3 := qAj m
 simp only [yM, lkP, lkF, lkV, lkR] at d1 d2 d3
 have v1 : qf6 [(⟨⟨#[112]⟩, 0, [1]⟩ : qj)] = some true := (qqG [lkR]).trans (by simp [qx8])
 have f1 : qeR [(⟨⟨#[112]⟩, 0, [1]⟩ : qj)] ⟨#[112]⟩ 1 = some (lkR, true) := qu2
 rw [qaN, o1, o3]
 simp only [ja, show ∀ x : At, zj [x] 0 = some x from fun _ => rfl, o2, d1, d2, d3]
 simp only [qfq, qdE, qc6, v1, f1, d1, d2, ja]
 decide
/-! ### the law -/
theorem qBJ (l : List qj) : ∃ b, qex l = some b := by
 rw [qex]
 have : ∀ l, ∃ b, qbZ (some true) l = some b := by
  intro l
  induction l with
  | nil => exact ⟨true, by rw [qbZ]⟩
  | cons r l ih =>
   rw [qbZ]
   cases decide ((r.f2_Factors.length : Int) > 10) with
   | true => exact ⟨false, rfl⟩
   | false => exact ih
 cases decide ((l.length : Int) > 20) with
 | true => exact ⟨false, rfl⟩
 | false => exact this l
/-! ### maps in the order of insertion -/
def zae : List (Int × Int) → Int
 | [] => 0
 | q :: m => q.2 + zae m
/-! ### the reference's lists -/
/-! ### a term -/
mutual
def NV : T → Prop
 | .mk k _ _ ar => (k = 1 → ar = []) ∧ NVL ar
def NVL : List T → Prop
 | [] => True
 | t :: ts => NV t ∧ NVL ts
end
theorem NV.ar {t : T} (h : NV t) : NVL t.ar := by cases t; simp only [NV] at h; exact h.2
/-! ### a constraint -/
/-! ### the removed heads -/
/-! ### the body -/
def okV (head ones vs : List Int) : Bool := vs.all fun v => decide (v ∈ head) || decide (v ∈ ones)
theorem qxY (k : Option Bool) (r1 : List (Int × Bool) × List (Int × Bool)) (head ones : List Int) (hh : ∀ v, (zp r1.1 v).getD false = decide (v ∈ head)) (ho : ∀ v, (zp r1.2 v).getD false = decide (v ∈ ones)) : ∀ vs : List Int, qbT k r1 vs = if okV head ones vs = true then k else some false
 | [] => by rw [qbT]; rfl
 | v :: vs => by
  rw [qbT, qxY k r1 head ones hh ho vs, hh, ho, okV, okV, List.all_cons]
  cases decide (v ∈ head) <;> cases decide (v ∈ ones) <;> simp
def Bg (g : Gl) : Prop := Bf ⟨g.n, g.ts⟩
/-! ### the end -/
def badQ (ones : List Int) (q : Int × Int) : Bool := decide (q.2 < 0) && !decide (q.1 ∈ ones)
theorem qqp (k : Int → Option Bool) (r1 : List (Int × Bool) × List (Int × Bool)) (ones : List Int) (ho : ∀ v, (zp r1.2 v).getD false = decide (v ∈ ones)) : ∀ (l : List (Int × Int)) (x : Int), wr x = x →
 zP (fun q (v : Int) => qdb k r1 q v) (fun v => qcL k r1 v) l x = if l.any (badQ ones) = true then some false else k (wr (x + zae l))
 | [], x, hx => by
  simp only [zP, qcL, zae, vf, hx]
  rfl
 | q :: l, x, hx => by
  rw [zP, qdb, ho, List.any_cons, badQ]
  have ih := qqp k r1 ones ho l (wr (x + q.2)) (qCj _)
  have e : wr (wr (x + q.2) + zae l) = wr (x + zae (q :: l)) := by rw [qA2, zae, Int.add_assoc]
  rw [e] at ih
  cases decide (q.2 < 0) with
  | true =>
   cases decide (q.1 ∈ ones) with
   | true => exact ih
   | false => simp [yW]
  | false => exact ih
theorem qw3 {l m : List (Int × Int)} (h : l.Perm m) : zae l = zae m := by
 induction h with
 | nil => rfl
 | cons x _ ih => simp only [zae, ih]
 | swap x y l => simp only [zae]; omega
 | trans _ _ i1 i2 => exact i1.trans i2
theorem qzv {α : Type} {l m : List α} (p : α → Bool) (h : l.Perm m) : l.any p = m.any p := by
 rw [jN, va, va]
 constructor
 · rintro ⟨x, h1, h2⟩; exact ⟨x, h.mem_iff.1 h1, h2⟩
 · rintro ⟨x, h1, h2⟩; exact ⟨x, h.mem_iff.2 h1, h2⟩
theorem qqv (k : Int → Option Bool) (r1 : List (Int × Bool) × List (Int × Bool)) (ones : List Int) (ho : ∀ v, (zp r1.2 v).getD false = decide (v ∈ ones)) (m : List (Int × Int)) (c : Int) (hc : wr c = c) (b : Bool) (hb : (if m.any (badQ ones) = true then some false else k (wr (c + zae m))) = some b) : qcN k r1 m c = some b := by
 rw [qcN]
 refine qyZ fun l' hl => ?_
 rw [qqp k r1 ones ho l' c hc, qzv _ hl, qw3 hl]
 exact hb
/-! ### a goal that unifies; no removed heads -/
theorem qsP (fuel : Nat) (ranks : List qj) (rule : qD) (hR : rule.f2_Remove = []) (r1 : List (Int × Bool) × List (Int × Bool)) (kP : Int → List (Int × Int) → Option Bool) (c : Int) (m : List (Int × Int)) :
 ∀ l : List Gl, qao kP fuel r1 rule ranks l c m = if (l.any fun g => decide (g.op = 3) || decide (g.op = 0)) = true then some false else kP c m
 | [] => by rw [qao]; rfl
 | g :: l => by
  rw [qao, qsP fuel ranks rule hR r1 kP c m l, hR, List.any_cons]
  by_cases e3 : g.op = 3
  · simp [e3]
  · by_cases h0 : g.op = 0
    · simp [h0]
    · simp [e3, h0]
/-! ### the variables of the heads, and those that are computed -/
def zaK (a : At) : List Int := yj [] (zw a.ts)
theorem qwa {a : At} (h : Bf a) : (zaK a).length ≤ 1048576 := by
 have h1 := qlU (zw a.ts) []
 have h2 := qoR a.ts
 have h3 := h.wt
 simp only [jY, jt] at h1
 unfold zaK
 omega
theorem qsu : ∀ (l : List (Int × Bool)) (x : Int) (d : Bool), (yS l x d).length ≤ l.length + 1 := qtY
theorem qqj {m : List (Int × Bool)} {v : Int} (h : m.length ≤ 1000000000) : zab m v true = some (yS m v true) := if_pos (by omega)
theorem qtS (m : List (Int × Bool)) (x v : Int) : (zp (yS m x true) v).getD false = ((zp m v).getD false || decide (v = x)) := by
 rw [qsE]
 by_cases h : x = v
 · subst h; simp
 · have h' : ¬ v = x := fun e => h e.symm
   simp [h, h']
theorem quw (k : List (Int × Bool) → Option (List (Int × Bool) × List (Int × Bool))) : ∀ (vs : List Int) (mm : List (Int × Bool)), mm.length + vs.length ≤ 100000000 → ∃ mm', qcu k vs mm = k mm' ∧ mm'.length ≤ mm.length + vs.length ∧ ∀ v, (zp mm' v).getD false = ((zp mm v).getD false || decide (v ∈ vs))
 | [], mm, _ => ⟨mm, by rw [qcu], by simp, by simp⟩
 | x :: vs, mm, h => by
  simp only [jg] at h
  have hl := qsu mm x true
  obtain ⟨mm', e1, e2, e3⟩ := quw k vs (yS mm x true) (by omega)
  refine ⟨mm', by rw [qcu, qqj (by omega)]; exact e1, by simp only [jg]; omega, fun v => ?_⟩
  rw [e3, qtS, Bool.or_assoc]
  congr 1
  rw [jN]
  simp
theorem qtX (k : List (Int × Bool) → Option (List (Int × Bool) × List (Int × Bool))) : ∀ (l : List At) (mm : List (Int × Bool)), (∀ a ∈ l, Bf a) → mm.length + 1048576 * l.length ≤ 100000000 → ∃ mm', qcc k l mm = k mm' ∧ mm'.length ≤ mm.length + 1048576 * l.length ∧ ∀ v, (zp mm' v).getD false = ((zp mm v).getD false || decide (v ∈ l.flatMap zaK))
 | [], mm, _, _ => ⟨mm, by rw [qcc], by simp, by simp⟩
 | a :: l, mm, hb, h => by
  simp only [jg] at h
  have ha := hb a (jd ..)
  have hw := ha.wt
  have hv := qwa ha
  obtain ⟨m1, e1, e2, e3⟩ := quw (fun mm_23 => qcc k l mm_23) (zaK a) mm (by omega)
  obtain ⟨m2, f1, f2, f3⟩ := qtX k l m1 (fun x hx => hb x (je _ hx)) (by omega)
  refine ⟨m2, ?_, by simp only [jg]; omega, fun v => ?_⟩
  · rw [qcc, qiR a (by omega)]
    simp only [ja]
    exact e1.trans f1
  · rw [f3, e3, Bool.or_assoc]
    congr 1
    rw [jN]
    simp
def zam (head : List Int) (g : Gl) : List Int := if g.op = 4 then match g.ts with
 | t :: _ => if t.k = 1 ∧ t.i ∉ head then [t.i] else []
 | [] => [] else []
def yT (head : List Int) (l : List Gl) : List Int := l.flatMap (zam head)
theorem qtx (k : List (Int × Bool) → Option (List (Int × Bool) × List (Int × Bool))) (hm : List (Int × Bool)) (head : List Int) (hh : ∀ v, (zp hm v).getD false = decide (v ∈ head)) : ∀ (l : List Gl) (mm : List (Int × Bool)), mm.length + l.length ≤ 100000000 → ∃ mm', qX k hm l mm = k mm' ∧ mm'.length ≤ mm.length + l.length ∧ ∀ v, (zp mm' v).getD false = ((zp mm v).getD false || decide (v ∈ yT head l))
 | [], mm, _ => ⟨mm, by rw [qX], by simp, by simp [yT]⟩
 | g :: l, mm, h => by
  simp only [jg] at h
  have same : (zam head g = []) → (qX k hm (g :: l) mm = qX k hm l mm) → ∃ mm', qX k hm (g :: l) mm = k mm' ∧ mm'.length ≤ mm.length + (g :: l).length ∧ ∀ v, (zp mm' v).getD false = ((zp mm v).getD false || decide (v ∈ yT head (g :: l))) := fun h1 h2 => by
   obtain ⟨mm', e1, e2, e3⟩ := qtx k hm head hh l mm (by omega)
   refine ⟨mm', h2.trans e1, by simp only [jg]; omega, fun v => ?_⟩
   rw [e3, yT, yT, vl, h1, jo]
  by_cases h4 : g.op = 4
  · cases hts : g.ts with
    | nil =>
     refine same (by simp [zam, hts]) ?_
     rw [qX]
     simp [h4, hts]
    | cons t ts =>
     have hgt : zj g.ts 0 = some t := by rw [hts]; rfl
     have hpos : decide ((g.ts.length : Int) > 0) = true := by rw [hts]; simp
     by_cases hk : t.k = 1
     · by_cases hi : t.i ∈ head
       · refine same (by simp [zam, hts, hi]) ?_
         rw [qX]
         simp [h4, hpos, hgt, hk, hh, hi]
       · have hl := qsu mm t.i true
         obtain ⟨mm', e1, e2, e3⟩ := qtx k hm head hh l (yS mm t.i true) (by omega)
         have hc : zam head g = [t.i] := by simp [zam, h4, hts, hk, hi]
         refine ⟨mm', ?_, by simp only [jg]; omega, fun v => ?_⟩
         · rw [qX]
           simp only [show (g.op == (4 : Int)) = true by simpa using h4, hpos, hgt, show (t.k == (1 : Int)) = true by simpa using hk, hh, hi, decide_false, Bool.not_false, cond_true, ja, qqj (show mm.length ≤ 1000000000 by omega)]
           exact e1
         · rw [e3, qtS, yT, yT, vl, hc, Bool.or_assoc]
           congr 1
           rw [jN]
           simp
     · refine same (by simp [zam, hts, hk]) ?_
       rw [qX]
       simp [h4, hpos, hgt, beq_false_of_ne hk]
  · refine same (by simp [zam, h4]) ?_
    rw [qX]
    simp [beq_false_of_ne h4]
/-! ### the two together -/
structure Br (r : qD) : Prop where
 lk : r.f1_Keep.length ≤ 20
 lr : r.f2_Remove.length ≤ 20
 lb : r.f4_Body.length ≤ 20
 bk : ∀ a ∈ r.f1_Keep, Bf a
 br : ∀ a ∈ r.f2_Remove, Bf a
 bb : ∀ g ∈ r.f4_Body, Bg g
def y4 (r : qD) : List Int := r.f1_Keep.flatMap zaK ++ r.f2_Remove.flatMap zaK
theorem qsW (r : qD) (h : Br r) : ∃ r1, qeA r = some r1 ∧ (∀ v, (zp r1.1 v).getD false = decide (v ∈ y4 r)) ∧ ∀ v, (zp r1.2 v).getD false = decide (v ∈ yT (y4 r) r.f4_Body) := by
 obtain ⟨hk, hr, hb, bk, br, bb⟩ := h
 have hH : qgb r = some (r.f1_Keep ++ r.f2_Remove) := by
  rw [qgb, qg7]
  simp only [ja]
  have hw : wr ((r.f1_Keep.length : Int) + (r.f2_Remove.length : Int)) = ((r.f1_Keep.length + r.f2_Remove.length : Nat) : Int) := by rw [qhO (by omega)]; simp
  rw [hw, zac, if_pos (by omega)]
  simp only [ja]
  rw [qme (by simp; omega) (by simp; omega)]
  simp only [ja, jo]
  rw [qme (by omega) (by omega)]
  rfl
 rw [qeA, hH]
 simp only [ja]
 obtain ⟨hm, e1, e2, e3⟩ := qtX (fun mm_6 => qX (fun mm_9 => some (mm_6, mm_9)) mm_6 r.f4_Body []) (r.f1_Keep ++ r.f2_Remove) [] (fun a ha => (jn.1 ha).elim (bk a) (br a)) (by simp; omega)
 have hh : ∀ v, (zp hm v).getD false = decide (v ∈ y4 r) := fun v => by rw [e3]; simp [zp, y4]
 obtain ⟨cm, f1, f2, f3⟩ := qtx (fun mm_9 => some (hm, mm_9)) hm (y4 r) hh r.f4_Body [] (by simp; omega)
 exact ⟨(hm, cm), e1.trans f1, hh, fun v => by rw [f3]; simp [zp]⟩
/-! ### a form and its value -/
def ab : List (Int × Int) → Nat
 | [] => 0
 | q :: m => q.2.natAbs + ab m
def evF (F : Int → Nat) : List (Int × Int) → Int
 | [] => 0
 | q :: m => q.2 * (F q.1 : Int) + evF F m
theorem qzE (v : Int) : ∀ m : List (Int × Int), ((zp m v).getD 0).natAbs ≤ ab m
 | [] => by simp [zp]
 | q :: m => by
  have := qzE v m
  rw [zp, ab]
  split
  · show q.2.natAbs ≤ _
    omega
  · omega
theorem qzN (v τ : Int) : ∀ m : List (Int × Int), ab (yS m v ((zp m v).getD 0 + τ)) ≤ ab m + τ.natAbs
 | [] => by simp [yS, zp, ab]
 | q :: m => by
  have := qzN v τ m
  simp only [yS, zp]
  split
  · show (q.2 + τ).natAbs + ab m ≤ q.2.natAbs + ab m + _
    omega
  · rw [ab, ab]
    omega
theorem qwR (F : Int → Nat) (v τ : Int) : ∀ m : List (Int × Int), evF F (yS m v ((zp m v).getD 0 + τ)) = evF F m + τ * (F v : Int)
 | [] => by simp [yS, zp, evF]
 | q :: m => by
  have := qwR F v τ m
  simp only [yS, zp]
  split
  · rename_i h
    show (q.2 + τ) * (F v : Int) + evF F m = q.2 * (F q.1 : Int) + evF F m + τ * (F v : Int)
    rw [Int.add_mul, h]
    omega
  · rw [evF, evF, this]
    omega
theorem qvX (v d : Int) : ∀ m : List (Int × Int), (yS m v d).length ≤ m.length + 1
 | [] => by simp [yS]
 | q :: m => by
  have := qvX v d m
  simp only [yS]
  split
  · simp
  · rw [jg, jg]
    omega
theorem qr3 {fuel : Nat} {τ : Int} (hr : ∀ (t : T) (c : Int) (m : List (Int × Int)), zK t = true → wt t < fuel → (c.natAbs + ab m) + τ.natAbs * wt t ≤ 4000000000000000000 → m.length + wt t ≤ 1000000000 →
 ∃ c' m', qal fuel t τ c m = some (c', m') ∧ c'.natAbs + ab m' ≤ (c.natAbs + ab m) + τ.natAbs * wt t ∧ m'.length ≤ m.length + wt t ∧ ∀ F, c' + evF F m' = c + evF F m + τ * (szT F t : Int)) :
 ∀ (l : List T) (c : Int) (m : List (Int × Int)), zI l = true → wtL l < fuel → (c.natAbs + ab m) + τ.natAbs * wtL l ≤ 4000000000000000000 → m.length + wtL l ≤ 1000000000 →
  ∃ c' m', qaM (fun f_6 mm_7 => some (f_6, mm_7)) (qal fuel) τ l c m = some (c', m') ∧ c'.natAbs + ab m' ≤ (c.natAbs + ab m) + τ.natAbs * wtL l ∧ m'.length ≤ m.length + wtL l ∧ ∀ F, c' + evF F m' = c + evF F m + τ * (szL F l : Int)
 | [], c, m, _, _, _, _ => ⟨c, m, by rw [qaM], by omega, by omega, fun F => by rw [szL]; simp⟩
 | t :: l, c, m, hfm, hf, hb, hl => by
  rw [zI, jj] at hfm
  rw [wtL] at hf hb hl
  rw [Nat.mul_add] at hb
  obtain ⟨c1, m1, e1, b1, l1, s1⟩ := hr t c m hfm.1 (by omega) (by omega) (by omega)
  obtain ⟨c2, m2, e2, b2, l2, s2⟩ := qr3 hr l c1 m1 hfm.2 (by omega) (by omega) (by omega)
  refine ⟨c2, m2, by rw [qaM, e1, ja, e2], by rw [wtL, Nat.mul_add]; omega, by rw [wtL]; omega, fun F => ?_⟩
  rw [s2, s1, szL, show ((szT F t + szL F l : Nat) : Int) = (szT F t : Int) + (szL F l : Int) by omega, Int.mul_add]
  omega
theorem quY (τ : Int) : ∀ (fuel : Nat) (t : T) (c : Int) (m : List (Int × Int)), zK t = true → wt t < fuel → (c.natAbs + ab m) + τ.natAbs * wt t ≤ 4000000000000000000 → m.length + wt t ≤ 1000000000 →
 ∃ c' m', qal fuel t τ c m = some (c', m') ∧ c'.natAbs + ab m' ≤ (c.natAbs + ab m) + τ.natAbs * wt t ∧ m'.length ≤ m.length + wt t ∧ ∀ F, c' + evF F m' = c + evF F m + τ * (szT F t : Int)
 | 0, t, _, _, _, h, _, _ => absurd h (vm _)
 | fuel + 1, t, c, m, hfm, hf, hb, hl => by
  have hw := qhe t
  have hm1 : τ.natAbs * wt t = τ.natAbs + τ.natAbs * wtL t.ar := by rw [hw, Nat.mul_add, Nat.mul_one]
  rw [qal]
  dsimp only
  by_cases h1 : t.k = 1
  · have hg := qzE t.i m
    have hp := qzN t.i τ m
    have hlp := qvX t.i ((zp m t.i).getD 0 + τ) m
    rw [show (t.k == (1 : Int)) = true by simpa using h1, cond_true, qhO (by omega), zab, if_pos (by omega), ja]
    refine ⟨_, _, rfl, by omega, by omega, fun F => ?_⟩
    rw [qwR, qtO F h1]
    omega
  · rw [show (t.k == (1 : Int)) = false by simpa using h1, cond_false, qhO (by omega)]
    have hfl : zI t.ar = true ∧ (t.k ≠ 2 → t.ar = []) := by
     by_cases h2 : t.k = 2
     · rw [ql6 h2, jj] at hfm
       exact ⟨hfm.2, fun h => absurd h2 h⟩
     · have h0 : t.ar.length = 0 := by
        by_cases e : t.k = 0
        · rw [ql8 e] at hfm
          exact (of_decide_eq_true hfm).2.2.2
        · rw [qm4 e h1 h2] at hfm
          cases hfm
       have := jB h0
       exact ⟨by rw [this, zI], fun _ => this⟩
    obtain ⟨c', m', e, b1, l1, s1⟩ := qr3 (fun t' c m a b d e => quY τ fuel t' c m a b d e) t.ar (c + τ) m hfl.1 (by omega) (by omega) (by omega)
    refine ⟨c', m', e, by omega, by omega, fun F => ?_⟩
    rw [s1]
    by_cases h2 : t.k = 2
    · rw [qtr F h2, show ((1 + szL F t.ar : Nat) : Int) = 1 + (szL F t.ar : Int) by omega, Int.mul_add, Int.mul_one]
      omega
    · rw [qtn F h1 h2, hfl.2 h2, szL]
      simp
      omega
/-! ### the rank of a name and sizes -/
def dot : List Int → List Nat → Int
 | f :: fs, n :: ns => f * (n : Int) + dot fs ns
 | _, _ => 0
def rkN (ranks : List qj) (s : ByteArray) (ns : List Nat) : Int := (zE ranks s (ns.length : Int)).1.f1_Const + dot (zE ranks s (ns.length : Int)).1.f2_Factors ns
theorem qwx {n : Int} (h : zbD n = true) : 0 ≤ n ∧ n ≤ 1048576 := of_decide_eq_true h
theorem qqN {r : qj} (h : zL r = true) : (0 ≤ r.f1_Const ∧ r.f1_Const ≤ 1048576) ∧ ∀ f ∈ r.f2_Factors, 0 ≤ f ∧ f ≤ 1048576 := by
 unfold zL at h
 simp only [jj, jv] at h
 exact ⟨qwx h.1.1, fun f hf => qwx (h.2 f hf)⟩
theorem qz0 {ranks : List qj} (fuel : Nat) (r : qj × Bool) (hr : ∀ f ∈ r.1.f2_Factors, 0 ≤ f ∧ f ≤ 1048576) (times : Int) (ht : times = 1 ∨ times = -1) : ∀ (ts : List T) (i : Nat) (c : Int) (m : List (Int × Int)), zI ts = true → wtL ts < fuel → wtL ts ≤ 1000 → c.natAbs + ab m + 1048576 * wtL ts ≤ 2000000000000000000 → m.length + wtL ts ≤ 1000000000 → (r.1.f2_Factors.drop i).length = ts.length →
 ∃ c' m', qbw (fun f_11 mm_12 => some (true, f_11, mm_12)) fuel r times ts i c m = some (true, c', m') ∧ c'.natAbs + ab m' ≤ c.natAbs + ab m + 1048576 * wtL ts ∧ m'.length ≤ m.length + wtL ts ∧ ∀ F, c' + evF F m' = c + evF F m + times * dot (r.1.f2_Factors.drop i) (ts.map (szT F))
 | [], i, c, m, _, _, _, _, _, hl => by
  refine ⟨c, m, by rw [qbw], by omega, by omega, fun F => ?_⟩
  rw [jB (l := r.1.f2_Factors.drop i) (by simpa using hl), dot]
  · simp
  · intro f fs n ns h
    cases h
 | t :: ts, i, c, m, hfm, hf, hw, hb, hml, hl => by
  rw [zI, jj] at hfm
  rw [wtL] at hf hw hb hml
  have hi : i < r.1.f2_Factors.length := by
   rw [vc, jg] at hl
   omega
  have hd := jV hi
  have hq := hr _ (List.getElem_mem hi)
  have htq : (times * r.1.f2_Factors[i]).natAbs ≤ 1048576 := by
   rcases ht with rfl | rfl
   · rw [vA]; omega
   · rw [Int.neg_mul, vA]; omega
  have hwr : wr (times * r.1.f2_Factors[i]) = times * r.1.f2_Factors[i] := qhO (by omega)
  have hmul : (times * r.1.f2_Factors[i]).natAbs * wt t ≤ 1048576 * wt t := jL _ htq
  rw [Nat.mul_add] at hb
  obtain ⟨c1, m1, e1, b1, l1, s1⟩ := quY (times * r.1.f2_Factors[i]) fuel t c m hfm.1 (by omega) (by omega) (by omega)
  obtain ⟨c2, m2, e2, b2, l2, s2⟩ := qz0 (ranks := ranks) fuel r hr times ht ts (i + 1) c1 m1 hfm.2 (by omega) (by omega) (by omega) (by omega) (by rw [vc, jg] at hl; rw [vc]; omega)
  refine ⟨c2, m2, ?_, by rw [wtL, Nat.mul_add]; omega, by rw [wtL]; omega, fun F => ?_⟩
  · rw [qbw, qdy, jq hi, ja, hwr, e1, ja, e2]
  · rw [s2, s1, hd, jl, dot, Int.mul_add, Int.mul_assoc]
    omega
theorem qxL (fuel : Nat) (hf : 1048577 ≤ fuel) (ranks : List qj) (a : At) (hb : Bf a) (times : Int) (ht : times = 1 ∨ times = -1) (c : Int) (m : List (Int × Int)) (hcm : c.natAbs + ab m ≤ 1000000000000000000) (hml : m.length ≤ 900000000) :
 ∃ ok c' m', qcv fuel ranks a times c m = some (ok, c', m') ∧ c'.natAbs + ab m' ≤ c.natAbs + ab m + 300000000 ∧ m'.length ≤ m.length + 200 ∧ (ok = true → ∀ F, c' + evF F m' = c + evF F m + times * rkN ranks a.n (a.ts.map (szT F))) := by
 have bad : ∃ ok c' m', some (false, c, m) = some (ok, c', m') ∧ c'.natAbs + ab m' ≤ c.natAbs + ab m + 300000000 ∧ m'.length ≤ m.length + 200 ∧ (ok = true → ∀ F, c' + evF F m' = c + evF F m + times * rkN ranks a.n (a.ts.map (szT F))) := ⟨false, c, m, rfl, by omega, by omega, fun h => by cases h⟩
 have hbw := hb.wt
 rw [qcv, qoI, ja]
 cases h1 : (zE ranks a.n (a.ts.length : Int)).2 with
 | false => exact bad
 | true =>
  rw [jG, cond_false, qnB, ja]
  cases h2 : zL (zE ranks a.n (a.ts.length : Int)).1 with
  | false => exact bad
  | true =>
   rw [jG, cond_false, qgn a (by omega), ja]
   cases h3 : zn a with
   | false => exact bad
   | true =>
    rw [jG, cond_false]
    obtain ⟨hfm, hw, _⟩ := qgp h3
    obtain ⟨hc, hfs⟩ := qqN h2
    have hlen := (qmQ h1).1
    have hcn : (times * (zE ranks a.n (a.ts.length : Int)).1.f1_Const).natAbs ≤ 1048576 := by
     rcases ht with rfl | rfl
     · rw [vA]; omega
     · rw [Int.neg_mul, vA]; omega
    rw [qhO (n := times * _) (by omega), qhO (by omega)]
    obtain ⟨c', m', e, b1, l1, s1⟩ := qz0 (ranks := ranks) fuel (zE ranks a.n (a.ts.length : Int)) hfs times ht a.ts 0 (c + times * (zE ranks a.n (a.ts.length : Int)).1.f1_Const) m hfm (by omega) (by omega) (by omega) (by omega) (by rw [vd]; omega)
    refine ⟨true, c', m', e, by omega, by omega, fun _ F => ?_⟩
    rw [s1, vd, rkN, jb, Int.mul_add]
    omega
/-! ### Decreases -/
def zbu (ranks : List qj) (F : Int → Nat) : List At → Int
 | [] => 0
 | a :: l => rkN ranks a.n (a.ts.map (szT F)) + zbu ranks F l
def zbn (ranks : List qj) (F : Int → Nat) : List Gl → Int
 | [] => 0
 | g :: l => (if g.op = 0 then rkN ranks g.n (g.ts.map (szT F)) else 0) + zbn ranks F l
theorem qzJ (F : Int → Nat) (h1 : ∀ v, 1 ≤ F v) (ones : List Int) (h2 : ∀ v ∈ ones, F v = 1) : ∀ m : List (Int × Int), m.any (badQ ones) = false → zae m ≤ evF F m
 | [], _ => by rw [zae, evF]; exact vx _
 | q :: m, h => by
  rw [List.any_cons, Bool.or_eq_false_iff] at h
  have ih := qzJ F h1 ones h2 m h.2
  rw [zae, evF]
  have : q.2 ≤ q.2 * (F q.1 : Int) := by
   by_cases ho : q.1 ∈ ones
   · rw [h2 _ ho]
     simp
   · have hq : 0 ≤ q.2 := by
      have := h.1
      unfold badQ at this
      rw [decide_eq_false ho, Bool.not_false, Bool.and_true] at this
      have := dF this
      omega
     have := Int.mul_le_mul_of_nonneg_left (show (1 : Int) ≤ (F q.1 : Int) by have := h1 q.1; omega) hq
     omega
  omega
theorem qxI : ∀ m : List (Int × Int), (zae m).natAbs ≤ ab m
 | [] => by rw [zae, ab]; exact jk _
 | q :: m => by
  have := qxI m
  rw [zae, ab]
  omega
def zau (ranks : List qj) (r : qD) : Prop := (r.f2_Remove = [] → ∀ g ∈ r.f4_Body, g.op ≠ 0) ∧ (r.f2_Remove ≠ [] → ∀ F : Int → Nat, (∀ v, 1 ≤ F v) → (∀ v, v ∉ y4 r → F v = 1) → 1 ≤ zbu ranks F r.f2_Remove - zbn ranks F r.f4_Body)
theorem qwT (fuel : Nat) (hf : 1048577 ≤ fuel) (ranks : List qj) {Q : Bool → Prop} (hQ : Q false) {k : Int → List (Int × Int) → Option Bool} : ∀ (l : List At) (c : Int) (m : List (Int × Int)), (∀ a ∈ l, Bf a) → c.natAbs + ab m + 300000000 * l.length ≤ 100000000000000000 → m.length + 200 * l.length ≤ 1000000 → (∀ c' m', c'.natAbs + ab m' ≤ c.natAbs + ab m + 300000000 * l.length → m'.length ≤ m.length + 200 * l.length → (∀ F, c' + evF F m' = c + evF F m + zbu ranks F l) → Yl (k c' m') Q) → Yl (qbS k fuel ranks l c m) Q
 | [], c, m, _, _, _, hk => by
  rw [qbS]
  exact hk c m (by omega) (by omega) fun F => by rw [zbu, vf]
 | a :: l, c, m, hb, hc, hm, hk => by
  rw [jg] at hc hm hk
  obtain ⟨ok, c1, m1, e, b1, l1, s1⟩ := qxL fuel hf ranks a (hb a (jd ..)) 1 (.inl rfl) c m (by omega) (by omega)
  rw [qbS, e, ja]
  refine .cond (fun _ => .pure hQ) fun hok => qwT fuel hf ranks hQ l c1 m1 (fun x hx => hb x (je _ hx)) (by omega) (by omega) fun c2 m2 b2 l2 s2 => hk c2 m2 (by omega) (by omega) fun F => ?_
  rw [s2, s1 (nF hok), zbu, vA]
  omega
theorem qqL (fuel : Nat) (hf : 1048577 ≤ fuel) (ranks : List qj) (rule : qD) (hR : rule.f2_Remove ≠ []) (r1 : List (Int × Bool) × List (Int × Bool)) (head ones : List Int) (hh : ∀ v, (zp r1.1 v).getD false = decide (v ∈ head)) (ho : ∀ v, (zp r1.2 v).getD false = decide (v ∈ ones)) {Q : Bool → Prop} (hQ : Q false) {k : Int → List (Int × Int) → Option Bool} : ∀ (l : List Gl) (c : Int) (m : List (Int × Int)), (∀ g ∈ l, Bg g) → c.natAbs + ab m + 300000000 * l.length ≤ 100000000000000000 → m.length + 200 * l.length ≤ 1000000 → (∀ c' m', c'.natAbs + ab m' ≤ c.natAbs + ab m + 300000000 * l.length → m'.length ≤ m.length + 200 * l.length → (∀ F, c' + evF F m' = c + evF F m - zbn ranks F l) → Yl (k c' m') Q) → Yl (qao k fuel r1 rule ranks l c m) Q
 | [], c, m, _, _, _, hk => by
  rw [qao]
  exact hk c m (by omega) (by omega) fun F => by rw [zbn, Int.sub_zero]
 | g :: l, c, m, hb, hc, hm, hk => by
  rw [jg] at hc hm hk
  have hbg := hb g (jd ..)
  have hb' := fun x hx => hb x (je g hx)
  have hlen : 0 < rule.f2_Remove.length := List.length_pos_iff.2 hR
  rw [qao]
  refine .cond (fun _ => .pure hQ) fun _ => .cond (fun h0 => .cond (fun hz => absurd (eT hz) (by omega)) fun _ => .cond (fun hn => absurd (eT h0) (bT hn)) fun _ => ?_) fun h0 => .cond (fun _ => ?_) fun hn => absurd (bF hn) (eF h0)
  · have h0 := eT h0
    have hBf : Bf ⟨g.n, g.ts⟩ := hbg
    have hw := hBf.wt
    rw [qiR _ (by omega), ja, qxY _ r1 head ones hh ho]
    split
    · obtain ⟨ok, c1, m1, e, b1, l1, s1⟩ := qxL fuel hf ranks ⟨g.n, g.ts⟩ hBf (-1) (.inr rfl) c m (by omega) (by omega)
      rw [e, ja]
      refine .cond (fun _ => .pure hQ) fun hok => qqL fuel hf ranks rule hR r1 head ones hh ho hQ l c1 m1 hb' (by omega) (by omega) fun c2 m2 b2 l2 s2 => hk c2 m2 (by omega) (by omega) fun F => ?_
      have s3 := s1 (nF hok) F
      rw [Int.neg_mul, vA] at s3
      dsimp only at s3
      rw [s2, s3, zbn, if_pos h0]
      omega
    · exact .pure hQ
  · refine qqL fuel hf ranks rule hR r1 head ones hh ho hQ l c m hb' (by omega) (by omega) fun c2 m2 b2 l2 s2 => hk c2 m2 (by omega) (by omega) fun F => ?_
    rw [s2, zbn, if_neg (eF h0)]
    omega
theorem qxm {head : List Int} {v : Int} : ∀ {l : List Gl}, v ∈ yT head l → v ∉ head := by
 intro l h
 unfold yT at h
 obtain ⟨g, _, hg⟩ := vW.1 h
 unfold zam at hg
 split at hg
 · split at hg
   · split at hg
     · rename_i h1
       rw [jm.1 hg]
       exact h1.2
     · cases hg
   · cases hg
 · cases hg
theorem qAD (fuel : Nat) (hf : 1048577 ≤ fuel) (ranks : List qj) (r : qD) (h : Br r) : Yl (qck fuel ranks r) fun b => b = true → zau ranks r := by
 obtain ⟨r1, e, hh, ho⟩ := qsW r h
 have hlr := h.lr
 have hlb := h.lb
 unfold qck
 rw [e, ja]
 by_cases hR : r.f2_Remove = []
 · rw [hR, qbS, qsP fuel ranks r hR r1]
   split
   · exact .pure fun h => by cases h
   · rename_i hn
     have fin : zau ranks r := ⟨fun _ g hg h0 => hn (va.2 ⟨g, hg, by simp [h0]⟩), fun h => absurd hR h⟩
     refine ⟨true, qqv _ r1 (yT (y4 r) r.f4_Body) ho [] 0 (qhO (by omega)) true ?_, fun _ => fin⟩
     simp [zae]
 · refine qwT fuel hf ranks (fun h => by cases h) _ 0 [] h.br (by simp [ab]; omega) (by simp; omega) fun c m b1 l1 s1 => qqL fuel hf ranks r hR r1 (y4 r) _ hh ho (fun h => by cases h) _ c m h.bb (by simp [ab] at b1; omega) (by simp at l1; omega) fun c2 m2 b2 l2 s2 => ?_
   have hv := qxI m2
   simp only [ab, Int.natAbs_zero, jt] at b1
   have hwc : wr c2 = c2 := qhO (by omega)
   have hws : wr (c2 + zae m2) = c2 + zae m2 := qhO (by omega)
   by_cases hbad : m2.any (badQ (yT (y4 r) r.f4_Body)) = true
   · exact ⟨false, qqv _ r1 _ ho m2 c2 hwc false (by rw [if_pos hbad]), fun h => by cases h⟩
   · by_cases hge : c2 + zae m2 ≥ 1
     · refine ⟨true, qqv _ r1 _ ho m2 c2 hwc true (by rw [if_neg hbad, hws, decide_eq_true hge, cond_true]), fun _ => ⟨fun h => absurd h hR, fun _ F hF1 hF2 => ?_⟩⟩
       have hlow := qzJ F hF1 (yT (y4 r) r.f4_Body) (fun v hv => hF2 v (qxm hv)) m2 (by simpa using hbad)
       have e1 := s1 F
       have e2 := s2 F
       rw [evF] at e1
       omega
     · have hl0 : 0 < r.f2_Remove.length := List.length_pos_iff.2 hR
       refine ⟨false, qqv _ r1 _ ho m2 c2 hwc false (by rw [if_neg hbad, hws, decide_eq_false hge, cond_false, uF (show (r.f2_Remove.length : Int) ≠ 0 by omega)]), fun h => by cases h⟩
def zbE : List Nat → Nat
 | [] => 0
 | n :: l => n + zbE l
theorem qse : ∀ l : List T, zbE (l.map zl) = zm l
 | [] => rfl
 | t :: l => by rw [jl, zbE, qse l, zm]
theorem qz2 : ∀ (fs : List Int) (ns : List Nat), (∀ f ∈ fs, 0 ≤ f ∧ f ≤ 1048576) → 0 ≤ dot fs ns ∧ dot fs ns ≤ 1048576 * (zbE ns : Int)
 | [], ns, _ => by
  have : dot [] ns = 0 := by cases ns <;> rfl
  omega
 | f :: fs, [], _ => by simp [dot, zbE]
 | f :: fs, n :: ns, h => by
  have h1 := h f (jd ..)
  have h2 := qz2 fs ns fun x hx => h x (je _ hx)
  rw [dot, zbE]
  have h3 : 0 ≤ f * (n : Int) := Int.mul_nonneg h1.1 (by omega)
  have h4 : f * (n : Int) ≤ 1048576 * (n : Int) := Int.mul_le_mul_of_nonneg_right h1.2 (by omega)
  omega
theorem qnk (ranks : List qj) (s : ByteArray) (n : Int) : ((zE ranks s n).2 = true ∧ ((zE ranks s n).1.f2_Factors.length : Int) = n ∧ (zE ranks s n).1 ∈ ranks) ∨ (zE ranks s n) = (⟨⟨#[]⟩, 0, []⟩, false) := by
 cases h : (zE ranks s n).2 with
 | true => exact .inl ⟨rfl, qmQ h⟩
 | false =>
  refine .inr ?_
  unfold zE at h ⊢
  split
  · rename_i e
    rw [e] at h
    cases h
  · rfl
theorem qB6 {ranks : List qj} (hv : ranks.all zL = true) (s : ByteArray) (ns : List Nat) : 0 ≤ rkN ranks s ns ∧ rkN ranks s ns ≤ 1048576 + 1048576 * (zbE ns : Int) := by
 unfold rkN
 rcases qnk ranks s (ns.length : Int) with ⟨_, _, hm⟩ | h
 · obtain ⟨h1, h2⟩ := qqN (jv.1 hv _ hm)
   have := qz2 _ ns h2
   omega
 · rw [h]
   have : dot [] ns = 0 := by cases ns <;> rfl
   dsimp only
   omega
theorem qu5 : ∀ (fs : List Int) (ts : List T) (n : Int), (∀ f ∈ fs, 0 ≤ f ∧ f ≤ 1048576) → 0 ≤ n → n + 1048576 * (zm ts : Int) ≤ 1000000000000000 → zaI fs ts n = n + dot fs (ts.map zl)
 | [], ts, n, _, _, _ => by
  have : dot [] (ts.map zl) = 0 := by cases ts <;> rfl
  rw [this, vf]
  cases ts <;> rfl
 | f :: fs, [], n, _, _, _ => by simp [zaI, dot]
 | f :: fs, t :: ts, n, h, h0, hb => by
  have h1 := h f (jd ..)
  rw [zm] at hb
  have h3 : 0 ≤ f * (zl t : Int) := Int.mul_nonneg h1.1 (by omega)
  have h4 : f * (zl t : Int) ≤ 1048576 * (zl t : Int) := Int.mul_le_mul_of_nonneg_right h1.2 (by omega)
  rw [zaI, qhO (n := f * _) (by omega), qhO (by omega), qu5 fs ts _ (fun x hx => h x (je _ hx)) (by omega) (by omega), jl, dot]
  omega
theorem qqt {ranks : List qj} (hv : ranks.all zL = true) (s : ByteArray) (ts : List T) (hw : wtL ts ≤ 200) : qcy ranks s ts = some (rkN ranks s (ts.map zl)) := by
 have hsw := qk8 ts
 unfold rkN
 rw [jb]
 rcases qnk ranks s (ts.length : Int) with ⟨h2, h3, hm⟩ | h
 · obtain ⟨g1, g2⟩ := qqN (jv.1 hv _ hm)
   rw [qcy, qqk, ja, qub _ ts _ _ 0 (fun t ht => by have := qff ht; omega) (by rw [vd]; omega), vd, qu5 _ ts _ g2 g1.1 (by omega)]
 · rw [qcy, qqk, ja, h]
   dsimp only
   rw [qaC]
   have : dot [] (ts.map zl) = 0 := by cases ts <;> rfl
   rw [this]
   rfl
/-! ### the measure of a state -/
def yy (ranks : List qj) : List (Int × At) → Int
 | [] => 0
 | q :: l => rkN ranks q.2.n (q.2.ts.map zl) + yy ranks l
def yK (ranks : List qj) : List Gl → Int
 | [] => 0
 | g :: l => (if g.op = 0 then rkN ranks g.n (g.ts.map zl) else 0) + yK ranks l
theorem qqS {ranks : List qj} (hv : ranks.all zL = true) (s : ByteArray) {ts : List T} (hw : wtL ts ≤ 200) : 0 ≤ rkN ranks s (ts.map zl) ∧ rkN ranks s (ts.map zl) ≤ 300000000 := by
 have := qB6 hv s (ts.map zl)
 rw [qse] at this
 have := qk8 ts
 omega
theorem qwG {ranks : List qj} (hv : ranks.all zL = true) : ∀ l : List (Int × At), (∀ q ∈ l, wtL q.2.ts ≤ 200) → 0 ≤ yy ranks l ∧ yy ranks l ≤ 300000000 * (l.length : Int)
 | [], _ => by simp [yy]
 | q :: l, h => by
  have h1 := qqS hv q.2.n (h q (jd ..))
  have h2 := qwG hv l fun x hx => h x (je _ hx)
  rw [yy, jg]
  omega
theorem quE (ranks : List qj) : ∀ a b : List (Int × At), yy ranks (a ++ b) = yy ranks a + yy ranks b
 | [], b => by rw [jo, yy, Int.zero_add]
 | q :: a, b => by rw [jz, yy, yy, quE ranks a b]; omega
theorem qrU (ranks : List qj) : ∀ a b : List Gl, yK ranks (a ++ b) = yK ranks a + yK ranks b
 | [], b => by rw [jo, yK, Int.zero_add]
 | g :: a, b => by rw [jz, yK, yK, qrU ranks a b]; omega
theorem qAe {ranks : List qj} (hv : ranks.all zL = true) : ∀ (l : List Gl) (n : Int), (∀ g ∈ l, wtL g.ts ≤ 200) → 0 ≤ n → n + 300000000 * (l.length : Int) ≤ 1000000000000000 → qau (fun n => some n) ranks l n = some (n + yK ranks l)
 | [], n, _, _, _ => by rw [qau, yK, vf]
 | g :: l, n, hw, h0, hb => by
  have hg := hw g (jd ..)
  have hr := qqS hv g.n hg
  rw [jg] at hb
  rw [qau, yK]
  by_cases h : g.op = 0
  · rw [uT h, cond_true, qqt hv g.n g.ts hg, ja, qhO (by omega), qAe hv l _ (fun x hx => hw x (je _ hx)) (by omega) (by omega), if_pos h]
    congr 1
    omega
  · rw [uF h, cond_false, qAe hv l n (fun x hx => hw x (je _ hx)) h0 (by omega), if_neg h, Int.zero_add]
theorem qBI {ranks : List qj} (hv : ranks.all zL = true) (k : Int → Option Int) : ∀ (l : List (Int × At)) (n : Int), (∀ q ∈ l, wtL q.2.ts ≤ 200) → 0 ≤ n → n + 300000000 * (l.length : Int) ≤ 1000000000000000 → qa6 k ranks l n = k (n + yy ranks l)
 | [], n, _, _, _ => by rw [qa6, yy, vf]
 | q :: l, n, hw, h0, hb => by
  have hq := hw q (jd ..)
  have hr := qqS hv q.2.n hq
  rw [jg] at hb
  rw [qa6, yy, qqt hv q.2.n q.2.ts hq, ja, qhO (by omega), qBI hv k l _ (fun x hx => hw x (je _ hx)) (by omega) (by omega)]
  congr 1
  omega
theorem qqb {ranks : List qj} (hv : ranks.all zL = true) (s : qw) (hg : ∀ g ∈ s.f0_Goals, zz g = true) (hq : ∀ q ∈ s.f1_Store, zn q.2 = true) (hl : s.f0_Goals.length ≤ 1000) (hsl : s.f1_Store.length ≤ 501) : qcY ranks s = some (yy ranks s.f1_Store + yK ranks s.f0_Goals) := by
 have hs := qwG hv s.f1_Store fun q h => (qgp (hq q h)).2.1
 unfold qcY
 rw [qBI hv _ _ 0 (fun q h => (qgp (hq q h)).2.1) (by omega) (by omega), qAe hv _ _ (fun g h => (qhR (hg g h)).2) (by omega) (by omega), Int.zero_add]
/-! ### how a step changes it -/
theorem qw5 {b c : En} (hc : Gud b c) : ∀ l : List T, (∀ v ∈ zw l, zp b v = none) → (apL c l).map zl = l.map zl
 | [], _ => rfl
 | t :: l, h => by
  rw [apL, jl, jl, qw5 hc l fun v hv => h v (by rw [zw]; exact jy _ hv), qwy, ← qzW t]
  congr 1
  refine qq8 t fun v hv => ?_
  exact hc.z v (h v (by rw [zw]; exact js _ hv))
theorem quN (ranks : List qj) {b c : En} (hc : Gud b c) : ∀ l : List (Int × At), (∀ q ∈ l, ∀ v ∈ zw q.2.ts, zp b v = none) → yy ranks (l.map (apI c)) = yy ranks l
 | [], _ => rfl
 | q :: l, h => by
  rw [jl, yy, yy, quN ranks hc l fun x hx => h x (je _ hx)]
  show rkN ranks q.2.n ((apL c q.2.ts).map zl) + _ = _
  rw [qw5 hc _ (h q (jd ..))]
theorem qu8 (ranks : List qj) {b c : En} (hc : Gud b c) : ∀ l : List Gl, (∀ g ∈ l, ∀ v ∈ zw g.ts, zp b v = none) → yK ranks (l.map (apG c)) = yK ranks l
 | [], _ => rfl
 | g :: l, h => by
  rw [jl, yK, yK, qu8 ranks hc l fun x hx => h x (je _ hx)]
  show (if g.op = 0 then rkN ranks g.n ((apL c g.ts).map zl) else 0) + _ = _
  rw [qw5 hc _ (h g (jd ..))]
theorem qmY (ranks : List qj) : ∀ (l : List Gl) (k : Nat) (g : Gl), l[k]? = some g → yK ranks l = yK ranks (l.eraseIdx k) + if g.op = 0 then rkN ranks g.n (g.ts.map zl) else 0
 | [], k, g, h => by simp at h
 | x :: l, 0, g, h => by
  rw [vy] at h
  cases h
  rw [yK, List.eraseIdx_cons_zero]
  omega
 | x :: l, k + 1, g, h => by
  rw [vD] at h
  rw [yK, List.eraseIdx_cons_succ, yK, qmY ranks l k g h]
  omega
theorem qn7 (ranks : List qj) : ∀ (l : List (Int × At)) (x : Int) (a : At), (l.Pairwise fun q r => q.1 < r.1) → (x, a) ∈ l → yy ranks l = yy ranks (l.filter fun q => decide (q.1 ≠ x)) + rkN ranks a.n (a.ts.map zl)
 | q :: l, x, a, hp, h => by
  obtain ⟨h1, h2⟩ := vZ.1 hp
  rcases jh.1 h with e | h
  · subst e
    rw [vt, if_neg (by simp), qnM fun r hr => by have := h1 r hr; dsimp only at this; omega, yy]
    dsimp only
    omega
  · have := h1 (x, a) h
    dsimp only at this
    rw [vt, if_pos (by simp; omega), yy, yy, qn7 ranks l x a h2 h]
    omega
theorem qw2 (ranks : List qj) (env : En) : ∀ (R : List At) (xs : List Int) (l : List (Int × At)), (l.Pairwise fun q r => q.1 < r.1) → xs.Nodup → hm l env R xs → yy ranks l = yy ranks (yc l xs) + zbu ranks (gz (zp env)) R
 | [], [], l, _, _, _ => by rw [yc, zbu, vf]
 | h :: R, x :: xs, l, hp, hn, ⟨⟨a, h1, h2, h3, h4⟩, h5⟩ => by
  obtain ⟨n1, n2⟩ := jO.1 hn
  have keep : ∀ (R : List At) (ys : List Int), x ∉ ys → hm l env R ys → hm (l.filter fun q => decide (q.1 ≠ x)) env R ys := fun R => by
   induction R with
   | nil =>
    intro ys _ h
    cases ys with
    | nil => trivial
    | cons y ys => exact h.elim
   | cons r R ih =>
    intro ys hx h
    cases ys with
    | nil => exact h.elim
    | cons y ys =>
     obtain ⟨⟨a', k1, k2⟩, k3⟩ := h
     exact ⟨⟨a', vr.2 ⟨k1, by simp only [decide_eq_true_eq]; exact fun e => hx (by rw [← e]; exact jd ..)⟩, k2⟩, ih ys (fun h => hx (je _ h)) k3⟩
  rw [qn7 ranks l x a hp h1, yc, zbu, qw2 ranks env R xs _ (hp.filter _) n2 (keep R xs n1 h5), h2, h3]
  omega
 | [], _ :: _, _, _, _, h => h.elim
 | _ :: _, [], _, _, _, h => h.elim
theorem qxN {l : List (Int × At)} {env : En} : ∀ (K R : List At) (ids : List Int), hm l env (K ++ R) ids → hm l env R (ids.drop K.length)
 | [], R, ids, h => by rw [jY, vd]; exact h
 | k :: K, R, i :: ids, h => by
  rw [jg, vI]
  exact qxN K R ids h.2
 | k :: K, R, [], h => h.elim
theorem qAH (env : En) (fresh v : Int) : zl (ef env fresh v) = gz (zp env) v := by
 unfold ef gz
 cases zp env v with
 | none => exact qiF (by simp [T.k])
 | some u => rfl
theorem qzK (env : En) (fresh : Int) : ∀ l : List T, (inL (ef env fresh) l).map zl = l.map (szT (gz (zp env)))
 | [] => rfl
 | t :: l => by
  rw [inL, jl, jl, qzK env fresh l, qxS, show (fun v => zl (ef env fresh v)) = gz (zp env) from funext (qAH env fresh)]
theorem qtt (ranks : List qj) (env : En) (fresh : Int) : ∀ l : List Gl, yK ranks (l.map (inG (ef env fresh))) = zbn ranks (gz (zp env)) l
 | [] => rfl
 | g :: l => by
  rw [jl, yK, zbn, qtt ranks env fresh l]
  show (if g.op = 0 then rkN ranks g.n ((inL (ef env fresh) g.ts).map zl) else 0) + _ = _
  rw [qzK]
theorem qx2 {r : qD} {h : At} (hm : h ∈ r.f1_Keep ++ r.f2_Remove) {v : Int} (hv : v ∈ zw h.ts) : v ∈ y4 r := by
 unfold y4
 rw [jn, vW, vW]
 have hb : v ∈ zaK h := qkM.2 (.inr hv)
 rcases jn.1 hm with hm | hm
 · exact .inl ⟨h, hm, hb⟩
 · exact .inr ⟨h, hm, hb⟩
theorem qBj (g : Int → Option T) (v : Int) : 1 ≤ gz g v := by
 unfold gz
 cases g v with
 | none => exact jk _
 | some u => exact qnD u
theorem qw0 {ranks : List qj} {r : qD} (hd : zau ranks r) {l : List (Int × At)} (hp : l.Pairwise fun q r => q.1 < r.1) {ids : List Int} {env : En} (he : zan l r ids env) (fresh : Int) :
 (r.f2_Remove = [] → yc l (ids.drop r.f1_Keep.length) = l ∧ yK ranks (r.f4_Body.map (inG (ef env fresh))) = 0) ∧ (r.f2_Remove ≠ [] → yy ranks (yc l (ids.drop r.f1_Keep.length)) + yK ranks (r.f4_Body.map (inG (ef env fresh))) < yy ranks l) := by
 refine ⟨fun h => ⟨?_, ?_⟩, fun h => ?_⟩
 · have := he.len
   rw [h, jx] at this
   rw [vV (by omega), yc]
 · rw [qtt]
   have hb := hd.1 h
   have : ∀ l : List Gl, (∀ g ∈ l, g.op ≠ 0) → zbn ranks (gz (zp env)) l = 0 := fun l => by
    induction l with
    | nil => intro _; rfl
    | cons g l ih =>
     intro hl
     rw [zbn, if_neg (hl g (jd ..)), ih fun x hx => hl x (je _ hx)]
     rfl
   exact this _ hb
 · have h1 := hd.2 h (gz (zp env)) (qBj _) fun v hv => by
    unfold gz
    cases hg : zp env v with
    | none => rfl
    | some u =>
     obtain ⟨a, ha, ho⟩ := he.dom v (by rw [hg]; simp)
     exact absurd (qx2 ha ho) hv
   have h2 := qw2 ranks env r.f2_Remove (ids.drop r.f1_Keep.length) l hp (he.nd.sublist (List.drop_sublist _ _)) (qxN _ _ _ he.fit)
   rw [qtt]
   omega
theorem qyF {ranks : List qj} {p : qn} (hd : ∀ r ∈ p.f1_Rules, zau ranks r) {s t : qw} (hs : zR p s) (h3 : ∀ g ∈ s.f0_Goals, g.op ≠ 3) {m : qE} (h : StpOk p s m t) :
 (m.f0_Kind ≠ 3 → yy ranks t.f1_Store + yK ranks t.f0_Goals = yy ranks s.f1_Store + yK ranks s.f0_Goals) ∧
 (m.f0_Kind = 3 → ∃ r, zj p.f1_Rules m.f2_Rule = some r ∧ (r.f2_Remove = [] → yy ranks t.f1_Store + yK ranks t.f0_Goals = yy ranks s.f1_Store + yK ranks s.f0_Goals) ∧ (r.f2_Remove ≠ [] → yy ranks t.f1_Store + yK ranks t.f0_Goals < yy ranks s.f1_Store + yK ranks s.f0_Goals)) := by
 rcases h.1 with ⟨h1, g, c, hg, h0, hc, e1, e2⟩ | ⟨h1, g, hg, h0, e1, e2⟩ | ⟨h1, r, env, hr, he, e1, e2⟩
 · refine ⟨fun _ => ?_, fun h => by omega⟩
   have hgm := qeK hg
   have hc := hc (h3 g hgm)
   have hk := (qb6 hg).2
   rw [e1, e2, quN ranks hc _ hs.sd.fr, qu8 ranks hc _ fun x hx => (hs.g x (Jf hx)).2.2, qmY ranks _ _ g hk]
   rw [if_neg h0, vf]
 · refine ⟨fun _ => ?_, fun h => by omega⟩
   have hk := (qb6 hg).2
   rw [e1, e2, quE, qmY ranks _ _ g hk, if_pos h0, yy, yy]
   dsimp only
   omega
 · refine ⟨fun h => absurd h1 h, fun _ => ⟨r, hr, ?_, ?_⟩⟩
   · intro hR
     obtain ⟨a1, a2⟩ := (qw0 (hd r (qeK hr)) hs.sd.st.s he s.f6_Fresh).1 hR
     rw [e1, e2, qrU, a1, a2, vf]
   · intro hR
     have := (qw0 (hd r (qeK hr)) hs.sd.st.s he s.f6_Fresh).2 hR
     rw [e1, e2, qrU]
     omega
/-! ### small programs and states -/
theorem qwA {k : Option Bool} (hk : Yl k fun _ => True) : ∀ (l : List T) (n : Int), (∀ t ∈ l, wt t ≤ 1000000000) → Yl (qbO k l n) fun _ => True
 | [], n, _ => by rw [qbO]; exact hk
 | t :: l, n, h => by
  rw [qbO, qlR t (h t (jd ..)), ja]
  exact .cond (fun _ => .pure trivial) fun _ => qwA hk l _ fun x hx => h x (je _ hx)
theorem qtG (l : List T) (h : ∀ t ∈ l, wt t ≤ 1000000000) : Yl (qc1 l) fun _ => True := by
 unfold qc1
 exact .cond (fun _ => .pure trivial) fun _ => qwA (.pure trivial) l 0 h
theorem qq3 {l : List T} (h : wtL l ≤ 1000000000) : ∀ t ∈ l, wt t ≤ 1000000000 := fun t ht => by have := qff ht; omega
theorem qqd (l : List At) (h : ∀ a ∈ l, wtL a.ts ≤ 1000000000) : Yl (qdn l) fun _ => True := by
 unfold qdn
 induction l with
 | nil => rw [qb7]; exact .pure trivial
 | cons a l ih =>
  rw [qb7]
  exact .bind (qtG _ (qq3 (h a (jd ..)))) fun _ _ => .cond (fun _ => .pure trivial) fun _ => ih fun x hx => h x (je _ hx)
theorem qlQ (l : List Gl) (n : Int) (h : ∀ a ∈ l, wtL a.ts ≤ 1000000000) : Yl (qcs l n) fun b => b = true → (l.length : Int) ≤ n := by
 unfold qcs
 refine .cond (fun _ => .pure fun h => by cases h) fun hl => ?_
 have hl := dF hl
 have main : ∀ m : List Gl, (∀ a ∈ m, wtL a.ts ≤ 1000000000) → Yl (qbr (some true) m) fun _ => True := fun m => by
  induction m with
  | nil => intro _; rw [qbr]; exact .pure trivial
  | cons a m ih =>
   intro h
   rw [qbr]
   exact .bind (qtG _ (qq3 (h a (jd ..)))) fun _ _ => .cond (fun _ => .pure trivial) fun _ => ih fun x hx => h x (je _ hx)
 exact (main l h).mono fun _ _ _ => by omega
structure RSm (r : qD) : Prop where
 lk : r.f1_Keep.length ≤ 3
 lr : r.f2_Remove.length ≤ 3
 lg : r.f3_Guard.length ≤ 6
 lb : r.f4_Body.length ≤ 6
theorem qu9 : ∀ l : List qD, (∀ r ∈ l, BkR r) → Yl (qaQ (some true) l) fun b => b = true → ∀ r ∈ l, RSm r
 | [], _ => by rw [qaQ]; exact .pure fun _ r h => by cases h
 | r :: l, h => by
  have hr := h r (jd ..)
  rw [qaQ]
  refine .cond (fun _ => .pure fun h => by cases h) fun h1 => .cond (fun _ => .pure fun h => by cases h) fun h2 => .cond (fun _ => .pure fun h => by cases h) fun _ => .cond (fun _ => .pure fun h => by cases h) fun h4 => .cond (fun _ => .pure fun h => by cases h) fun h5 => ?_
  have h1 := dF h1
  have h2 := dF h2
  have h4 := dF h4
  have h5 := dF h5
  refine .bind (qqd _ fun a ha => hr.a a (js _ ha)) fun _ _ => .cond (fun _ => .pure fun h => by cases h) fun _ => .bind (qqd _ fun a ha => hr.a a (jy _ ha)) fun _ _ => .cond (fun _ => .pure fun h => by cases h) fun _ => .bind (qlQ _ 6 fun a ha => hr.g a (js _ ha)) fun _ _ => .cond (fun _ => .pure fun h => by cases h) fun _ => .bind (qlQ _ 6 fun a ha => hr.g a (jy _ ha)) fun _ _ => .cond (fun _ => .pure fun h => by cases h) fun _ => (qu9 l fun x hx => h x (je _ hx)).mono fun b hb hbt x hx => ?_
  rcases jh.1 hx with rfl | hx
  · exact ⟨by omega, by omega, by omega, by omega⟩
  · exact hb hbt x hx
theorem qyS (p : qn) (hp : BkP p) : Yl (qdz p) fun b => b = true → ∀ r ∈ p.f1_Rules, RSm r := by
 unfold qdz
 exact .cond (fun _ => .pure fun h => by cases h) fun _ => .cond (fun _ => .pure fun h => by cases h) fun _ => qu9 _ hp.r
theorem qyf (l : List (Int × At)) (b : En) (h : List qq) (hl : ∀ q ∈ l, wtL q.2.ts ≤ 1000000000) (hb : ∀ q ∈ b, wt q.2 ≤ 1000000000) : Yl (qd2 l b h) fun _ => True := by
 unfold qd2
 refine .cond (fun _ => .pure trivial) fun _ => .cond (fun _ => .pure trivial) fun _ => .cond (fun _ => .pure trivial) fun _ => ?_
 have l2 : ∀ h : List qq, Yl (qap (some true) h) fun _ => True := fun h => by
  induction h with
  | nil => rw [qap]; exact .pure trivial
  | cons f h ih =>
   rw [qap]
   exact .cond (fun _ => .pure trivial) fun _ => ih
 have l1 : ∀ b : En, (∀ q ∈ b, wt q.2 ≤ 1000000000) → Yl (qaW (qap (some true) h) b) fun _ => True := fun b => by
  induction b with
  | nil => intro _; rw [qaW]; exact l2 h
  | cons q b ih =>
   intro hq
   rw [qaW, qlR q.2 (hq q (jd ..)), ja]
   exact .cond (fun _ => .pure trivial) fun _ => ih fun x hx => hq x (je _ hx)
 have l0 : ∀ l : List (Int × At), (∀ q ∈ l, wtL q.2.ts ≤ 1000000000) → Yl (qbp (qaW (qap (some true) h) b) l) fun _ => True := fun l => by
  induction l with
  | nil => intro _; rw [qbp]; exact l1 b hb
  | cons q l ih =>
   intro hq
   rw [qbp]
   exact .bind (qtG _ (qq3 (hq q (jd ..)))) fun _ _ => .cond (fun _ => .pure trivial) fun _ => ih fun x hx => hq x (je _ hx)
 exact l0 l hl
theorem qyK (p : qn) (hp : BkP p) (s : qw) (hs : BkS s) : Yl (qeb p s) fun b => b = true → ∀ r ∈ p.f1_Rules, RSm r := by
 unfold qeb
 exact .bind (qyS p hp) fun b hb => .cond (fun h => .bind (qlQ _ 10 hs.g) fun _ _ => .cond (fun _ => .bind (qlQ _ 6 hs.k) fun _ _ => .cond (fun _ => .bind (qyf _ _ _ hs.st hs.b) fun _ _ => .pure fun _ => hb h) fun _ => .pure fun h => by cases h) fun _ => .pure fun h => by cases h) fun _ => .pure fun h => by cases h
/-! ### the check of the ranks -/
theorem qw7 (fuel : Nat) (hf : 1048577 ≤ fuel) (p : qn) (ranks : List qj) (h : ∀ r ∈ p.f1_Rules, Br r) : Yl (qfq fuel p ranks) fun e => e = 0 → ranks.all zL = true ∧ ∀ r ∈ p.f1_Rules, zau ranks r := by
 unfold qfq
 rw [qqG, ja]
 refine .cond (fun _ => .pure fun h => absurd h (show ¬ (2 : Int) = 0 by omega)) fun hv => ?_
 have l1 : ∀ l : List qD, (∀ r ∈ l, Br r) → Yl (qc6 (some 0) fuel ranks l) fun e => e = 0 → ∀ r ∈ l, zau ranks r := fun l => by
  induction l with
  | nil => intro _; rw [qc6]; exact .pure fun _ r h => by cases h
  | cons r l ih =>
   intro hb
   rw [qc6]
   refine .bind (qAD fuel hf ranks r (hb r (jd ..))) fun b hd => .cond (fun _ => .pure fun h => absurd h (show ¬ (19 : Int) = 0 by omega)) fun h1 => (ih fun x hx => hb x (je _ hx)).mono fun e he h0 x hx => ?_
   rcases jh.1 hx with rfl | hx
   · exact hd (nF h1)
   · exact he h0 x hx
 have l0 : ∀ l : List qbG, Yl (qdE (qc6 (some 0) fuel ranks p.f1_Rules) ranks l) fun e => e = 0 → ∀ r ∈ p.f1_Rules, zau ranks r := fun l => by
  induction l with
  | nil => rw [qdE]; exact l1 _ h
  | cons d l ih =>
   rw [qdE, qoI, ja]
   exact .cond (fun _ => .pure fun h => absurd h (show ¬ (13 : Int) = 0 by omega)) fun _ => ih
 exact (l0 _).mono fun e he h0 => ⟨nF hv, he h0⟩
/-! ### the law -/
theorem qt9 (fuel : Nat) (hf : 1500000000 < fuel) {p : qn} (hp : BkP p) {ranks : List qj} (hv : ranks.all zL = true) (hd : ∀ r ∈ p.f1_Rules, zau ranks r) {s : qw} (hs : zR p s) (h3 : ∀ g ∈ s.f0_Goals, g.op ≠ 3) {k : Option Bool} (hk : Yl k fun b => b = true) : ∀ (l : List qE) (i : Nat), (∀ m ∈ l, yX fuel p s m) → Yl (qW k fuel p ranks s l i) fun b => b = true
 | [], i, _ => by rw [qW]; exact hk
 | m :: l, i, hm => by
  have next := qt9 fuel hf hp hv hd hs h3 hk l (i + 1) fun x hx => hm x (je _ hx)
  rw [qW]
  refine .cond (fun _ => hk) fun _ => .bind (qCk fuel hf hp hs m (hm m (jd ..))) fun r hr => .cond (fun _ => next) fun h0 => .cond (fun _ => next) fun hF => ?_
  have hst := hr (bF h0) hF
  obtain ⟨a1, a2⟩ := qyF hd hs h3 hst
  have kp := hst.2
  rw [qqb hv s (fun g hg => (hs.g g hg).1) hs.sd.st.a hs.gl (by have := hs.sd.st.n; omega), ja, qqb hv r.1 kp.g kp.s kp.gl kp.sl, ja]
  refine .cond (fun hk3 => ?_) fun hk3 => .cond (fun hne => absurd (a1 (eF hk3)).symm (bT hne)) fun _ => next
  obtain ⟨rl, hrl, b1, b2⟩ := a2 (eT hk3)
  rw [hrl, ja]
  refine .cond (fun hpos => ?_) fun hpos => ?_
  · have hpos := dT hpos
    have := b2 fun e => by rw [e] at hpos; simp at hpos
    exact .cond (fun hge => absurd (dT hge) (by omega)) fun _ => next
  · have hpos := dF hpos
    have := b1 (jB (by omega))
    exact .cond (fun hne => absurd this.symm (bT hne)) fun _ => next
theorem qu6 (fuel : Nat) (haw : Yl (qaN fuel) fun b => b = true) {k : Option Bool} : ∀ l : List Gl, ((∀ g ∈ l, g.op ≠ 3) → Yl k fun b => b = true) → Yl (qaG k fuel l) fun b => b = true
 | [], hk => by rw [qaG]; exact hk fun g h => by cases h
 | g :: l, hk => by
  rw [qaG]
  refine .cond (fun _ => .bind haw fun b hb => .pure hb) fun h => qu6 fuel haw l fun hl => hk fun x hx => ?_
  rcases jh.1 hx with rfl | hx
  · exact eF h
  · exact hl x hx
structure BkL (p : qn) (s : qw) : Prop where
 bp : BkP p
 bs : BkS s
 a : ∀ r ∈ p.f1_Rules, ∀ a ∈ r.f1_Keep ++ r.f2_Remove, wtL a.ts ≤ 1048576
 g : ∀ r ∈ p.f1_Rules, ∀ g ∈ r.f4_Body, wtL g.ts ≤ 1048576
theorem qyG (m : Nat) (hf : 1500000000 < m) (p : qn) (ranks : List qj) (s : qw) (h : BkL p s) : qdf (m + 20) p ranks s = some true := by
 have haw : Yl (qaN (m + 20)) fun b => b = true := ⟨true, qzq m, rfl⟩
 have key : Yl (qdf (m + 20) p ranks s) fun b => b = true := by
  unfold qdf
  obtain ⟨b, e⟩ := qBJ ranks
  rw [e, ja]
  refine .cond (fun _ => .bind haw fun b hb => .pure hb) fun _ => .bind (qyK p h.bp s h.bs) fun b hb => .cond (fun _ => .bind haw fun b hb => .pure hb) fun hsm => ?_
  have hsm := hb (nF hsm)
  have hBr : ∀ r ∈ p.f1_Rules, Br r := fun r hr => by
   have := hsm r hr
   exact ⟨by have := this.lk; omega, by have := this.lr; omega, by have := this.lb; omega, fun a ha => h.a r hr a (js _ ha), fun a ha => h.a r hr a (jy _ ha), fun g hg => h.g r hr g hg⟩
  refine .bind (qw7 (m + 20) (by omega) p ranks hBr) fun e he => .cond (fun _ => .bind haw fun b hb => .pure hb) fun h0 => .bind (qqD (m + 20) (by omega) p h.bp s h.bs) fun b hb => .cond (fun _ => .bind haw fun b hb => .pure hb) fun hr => ?_
  obtain ⟨hv, hd⟩ := he (bF h0)
  have hs := hb (nF hr)
  refine qu6 (m + 20) haw _ fun h3 => .bind (quU (m + 20) (by omega) h.bp hs) fun l hl => qt9 (m + 20) (by omega) h.bp hv hd hs h3 (.bind haw fun b hb => .pure hb) l 0 hl
 obtain ⟨b, e, hb⟩ := key
 rw [e, hb]
end Go.Proofs.YtlfcjfiecoapoaaGreat
namespace Go.Proofs.YtlfcjfiecoapoaaGreat
set_option maxRecDepth 100000
open Go.ChangeShapes Go.WideShapes Go.ChangeAt Go.RowKit
theorem qyl {N : Nat} {t : TypeId} (ht : (Tryz.prog).underlying t = some .bool) : OpB N t 1 fun d => ∃ n, d = .bool n := fun H enc W base sp hd fuel cs x _ hx => by
 obtain ⟨d, v, ⟨n, rfl⟩, h2, h3, h4, h5⟩ := qAb ht H enc W base sp hd fuel cs x hx
 exact ⟨_, v, ⟨n, rfl⟩, h2, h3, h4, h5, by simp only [zS]; exact qzA _⟩
theorem qp2 (N : Nat) : OpB N 46 1 fun d => ∃ l : List Int, d = .lst (l.map (D.int .i64)) := (qhL (f := D.int .i64) Tryz.underlying46 qxe (by omega) (qiD (N := N) Tryz.underlying3)).less (by omega)
theorem qyk (N : Nat) : OpB N 55 3 fun d => ∃ x, d = qB x :=
 ((qfJ (N := N) Tryz.underlying55 [fun d => ∃ s, d = .str s, fun d => ∃ n, d = .int .i64 n, fun d => ∃ l : List Int, d = .lst (l.map (D.int .i64))] ⟨qmW Tryz.underlying9, qiD Tryz.underlying3, qp2 N, trivial⟩ (by kernel_rfl) (by kernel_rfl) (by kernel_rfl)).less (by omega)).to fun d ⟨ds, hd, h⟩ => by
  match ds, h with
  | [_, _, _], ⟨⟨x0, rfl⟩, ⟨x1, rfl⟩, ⟨x2, rfl⟩, _⟩ => exact ⟨⟨x0, x1, x2⟩, hd⟩
theorem qwz (N : Nat) : OpB N 26 1 fun d => ∃ l : List qj, d = .lst (l.map qB) := (qhL Tryz.underlying26 (by kernel_rfl) (by omega) (qyk N)).less (by omega)
theorem qzk (N : Nat) : OpB N 85 3 fun d => ∃ x : Int × At, d = zr x :=
 ((qfJ (N := N) Tryz.underlying85 [fun d => ∃ n, d = .int .i64 n, fun d => ∃ a, d = zX a] ⟨qiD Tryz.underlying3, quK N, trivial⟩ (by kernel_rfl) (by kernel_rfl) (by kernel_rfl)).less (by omega)).to fun d ⟨ds, hd, h⟩ => by
  match ds, h with
  | [_, _], ⟨⟨x0, rfl⟩, ⟨x1, rfl⟩, _⟩ => exact ⟨(x0, x1), hd⟩
theorem qwr (N : Nat) : OpB N 28 1 fun d => ∃ l : List (Int × At), d = .lst (l.map zr) := (qhL Tryz.underlying28 (by kernel_rfl) (by omega) (qzk N)).less (by omega)
theorem qyR (N : Nat) : OpB N 92 5 fun d => ∃ x : Int × T, d = zo x :=
 ((qfJ (N := N) Tryz.underlying92 [fun d => ∃ n, d = .int .i64 n, fun d => ∃ t, d = zi t] ⟨qiD Tryz.underlying3, qqM N, trivial⟩ (by kernel_rfl) (by kernel_rfl) (by kernel_rfl)).less (by omega)).to fun d ⟨ds, hd, h⟩ => by
  match ds, h with
  | [_, _], ⟨⟨x0, rfl⟩, ⟨x1, rfl⟩, _⟩ => exact ⟨(x0, x1), hd⟩
theorem qtp (N : Nat) : OpB N 30 1 fun d => ∃ l : List (Int × T), d = .lst (l.map zo) := (qhL Tryz.underlying30 (by kernel_rfl) (by omega) (qyR N)).less (by omega)
theorem qze (N : Nat) : OpB N 94 2 fun d => ∃ x, d = qh x :=
 ((qfJ (N := N) Tryz.underlying94 [fun d => ∃ n, d = .int .i64 n, fun d => ∃ l : List Int, d = .lst (l.map (D.int .i64))] ⟨qiD Tryz.underlying3, qp2 N, trivial⟩ (by kernel_rfl) (by kernel_rfl) (by kernel_rfl)).less (by omega)).to fun d ⟨ds, hd, h⟩ => by
  match ds, h with
  | [_, _], ⟨⟨x0, rfl⟩, ⟨x1, rfl⟩, _⟩ => exact ⟨⟨x0, x1⟩, hd⟩
theorem qxa (N : Nat) : OpB N 31 1 fun d => ∃ l : List qq, d = .lst (l.map qh) := (qhL Tryz.underlying31 (by kernel_rfl) (by omega) (qze N)).less (by omega)
theorem qxT (N : Nat) : OpB N 33 8 fun d => ∃ x, d = qJ x :=
 ((qfJ (N := N) Tryz.underlying33 [fun d => ∃ l : List Gl, d = .lst (l.map zA), fun d => ∃ l : List (Int × At), d = .lst (l.map zr), fun d => ∃ l : List (Int × T), d = .lst (l.map zo), fun d => ∃ l : List qq, d = .lst (l.map qh), fun d => ∃ l : List Gl, d = .lst (l.map zA), fun d => ∃ n, d = .int .i64 n, fun d => ∃ n, d = .int .i64 n, fun d => ∃ b, d = .bool b] ⟨qmB N, qwr N, qtp N, qxa N, qmB N, qiD Tryz.underlying3, qiD Tryz.underlying3, qyl Tryz.underlying4, trivial⟩ (by kernel_rfl) (by kernel_rfl) (by kernel_rfl)).less (by omega)).to fun d ⟨ds, hd, h⟩ => by
  match ds, h with
  | [_, _, _, _, _, _, _, _], ⟨⟨x0, rfl⟩, ⟨x1, rfl⟩, ⟨x2, rfl⟩, ⟨x3, rfl⟩, ⟨x4, rfl⟩, ⟨x5, rfl⟩, ⟨x6, rfl⟩, ⟨x7, rfl⟩, _⟩ => exact ⟨⟨x0, x1, x2, x3, x4, x5, x6, x7⟩, hd⟩
def bRanks : zbp := ⟨_, _, _, qwz, (qza Tryz.underlying26).to fun _ ⟨_, h⟩ => ⟨_, h⟩⟩
def bState : zbp := ⟨_, _, _, qxT, (qsk Tryz.underlying33).to fun _ ⟨_, h⟩ => ⟨_, h⟩⟩
theorem qlV : ∀ l : List D, l.length ≤ zC l
 | [] => jk _
 | d :: l => by
  have := qlV l
  have : 1 ≤ zS d := by cases d <;> simp [zS]
  rw [jg, zC]
  omega
theorem qBm {p : qn} (h : zS (ql p) ≤ 1048576) : BkP p := by
 have hb := qsr h
 simp only [ql, zS, zC] at h
 refine ⟨fun r hr => ?_, fun d hd => ?_⟩
 · obtain ⟨b1, b2, b3, b4⟩ := hb r hr
   have h1 := qhb (f := qp) hr
   simp only [qp, zS, zC] at h1
   have l1 := qlV (r.f1_Keep.map zX)
   have l2 := qlV (r.f2_Remove.map zX)
   have l3 := qlV (r.f3_Guard.map zA)
   have l4 := qlV (r.f4_Body.map zA)
   rw [jb] at l1 l2 l3 l4
   refine ⟨fun a ha => ?_, fun g hg => ?_, by omega, by omega, by omega⟩
   · rcases jn.1 ha with ha | ha
     · have := b1 a ha; omega
     · have := b2 a ha; omega
   · rcases jn.1 hg with hg | hg
     · have := b3 g hg; omega
     · have := b4 g hg; omega
 · have h1 := qhb (f := qaf) hd
   simp only [qaf, zS, zC] at h1
   omega
theorem qBC {s : qw} (h : zS (qJ s) ≤ 1048576) : BkS s := by
 simp only [qJ, zS, zC] at h
 have l1 := qlV (s.f2_Binds.map zo)
 rw [jb] at l1
 refine ⟨fun g hg => ?_, fun g hg => ?_, fun q hq => ?_, fun q hq => ?_, by omega⟩
 · have h1 := qhb (f := zA) hg
   have := qrn (g := g) (by omega)
   omega
 · have h1 := qhb (f := zA) hg
   have := qrn (g := g) (by omega)
   omega
 · have h1 := qhb (f := zr) hq
   simp only [zr, zS, zC] at h1
   have := qs4 (a := q.2) (by omega)
   omega
 · have h1 := qhb (f := zo) hq
   have h2 : zS (zi q.2) + 2 ≤ zS (zo q) := by
    simp only [zo, zS, zC]
    omega
   have h3 := qyc q.2
   omega
theorem qBB {p : qn} {s : qw} (hp : zS (ql p) ≤ 1048576) (hs : zS (qJ s) ≤ 1048576) : BkL p s := by
 have hb := qsr hp
 refine ⟨qBm hp, qBC hs, fun r hr a ha => ?_, fun r hr g hg => ?_⟩
 · obtain ⟨b1, b2, _⟩ := hb r hr
   rcases jn.1 ha with ha | ha
   · exact b1 a ha
   · exact b2 a ha
 · exact (hb r hr).2.2.2 g hg
theorem qnU (p : qn) (ranks : List qj) (s : qw) (hp : zS (ql p) ≤ 1048576) (hs : zS (qJ s) ≤ 1048576) : zf Tryz.prog 3 [ql p, .lst (ranks.map qB), qJ s] (.bool true) :=
 qiL (2000000000 + 20) p ranks s true (qyG 2000000000 (by omega) p ranks s (qBB hp hs))
end Go.Proofs.YtlfcjfiecoapoaaGreat
