/-
 Texts of the seat, merged.
-/
import Derived.Test.YtamoolpdganckaaGreatLSI
set_option linter.unusedVariables false
set_option linter.unusedSimpArgs false
set_option linter.unnecessarySimpa false
set_option linter.all false
set_option maxHeartbeats 8000000
namespace Go.Proofs.YtamoolpdganckaaGreat
set_option maxRecDepth 100000
open Go.RowKit
/-! ### layer 21: the order of entries -/
def y7 : List Int → List Int → Int
 | x :: xs, y :: ys => if x < y then -1 else if x > y then 1 else y7 xs ys
 | [], _ => 0
 | _ :: _, [] => 0
def zaM (f : qi) : List Int := f.fy :: (f.fm.length : Int) :: f.fm
theorem qrn : ∀ a b c : List Int, y7 a b < 0 → y7 b c < 0 → y7 a c < 0
 | [], b, c, h, _ => by simp [y7] at h
 | x :: xs, [], c, h, _ => by simp [y7] at h
 | x :: xs, y :: ys, [], _, h => by simp [y7] at h
 | x :: xs, y :: ys, z :: zs, h1, h2 => by
  rw [y7] at h1 h2 ⊢
  split at h1
  split at h2
  rw [if_pos oa]
  omega
  split at h2
  omega
  rw [if_pos oa]
  omega
  split at h1
  omega
  split at h2
  rw [if_pos oa]
  omega
  split at h2
  omega
  rw [if_neg oa, if_neg oa]
  exact qrn xs ys zs h1 h2
theorem qty : ∀ a b : List Int, 0 < y7 a b → y7 b a < 0
 | [], b, h => by simp [y7] at h
 | x :: xs, [], h => by simp [y7] at h
 | x :: xs, y :: ys, h => by
  rw [y7] at h ⊢
  split at h
  omega
  split at h
  rw [if_pos oa]
  omega
  rw [if_neg oa, if_neg oa]
  exact qty xs ys h
abbrev ltF (a b : qi) : Prop := y7 (zaM a) (zaM b) < 0
theorem qpU (a b : Int) : qct a b = some (if a < b then -1 else if a > b then 1 else 0) := by
 unfold qct
 by_cases h : a < b
 rw [decide_eq_true h, if_pos h]
 rfl
 rw [decide_eq_false h, if_neg h]
 by_cases h2 : a > b
 rw [decide_eq_true h2, if_pos h2]
 rfl
 rw [decide_eq_false h2, if_neg h2]
 rfl
theorem qs4 (b : qi) : ∀ (l : List Int) (c : Int) (i : Nat), qag (fun c => some c) b l c i = some (if c = 0 then y7 l (b.fm.drop i) else c)
 | [], c, i => by
  rw [qag, y7]
  split <;> simp [*]
 | x :: l, c, i => by
  rw [qag]
  by_cases hi : (i : Int) < (b.fm.length : Int)
  rw [decide_eq_true hi, cond_true]
  by_cases hc : c = 0
  obtain ⟨y, hy, _⟩ := ye (l := b.fm) (i := (i : Int)) oa hi
  rw [uT hc, cond_true, hy, ja, qpU, ja, qs4 b l _ (i + 1), if_pos hc]
  rw [qdl] at hy
  have hi' : i < b.fm.length := by omega
  rw [j2 hi', y7]
  rw [js hi'] at hy
  rw [Option.some.inj hy]
  congr 1
  by_cases h1 : x < y
  rw [if_pos h1, if_pos h1, if_neg oa]
  rw [if_neg h1, if_neg h1]
  by_cases h2 : x > y
  rw [if_pos h2, if_pos h2, if_neg oa]
  rw [if_neg h2, if_neg h2, if_pos rfl]
  rw [uF hc, cond_false, if_neg hc]
  rw [decide_eq_false hi, cond_false, va oa, y7]
  split <;> simp [*]
theorem qrX (a b : qi) : qbW a b = some (y7 (zaM a) (zaM b)) := by
 unfold qbW qdq zaM
 rw [qpU, ja, y7, y7]
 dsimp only
 have l0 := fun c => qs4 b a.fm c 0
 simp only [vz] at l0
 by_cases h1 : a.fy < b.fy
 rw [if_pos h1, if_pos h1, uF oa, cond_false, l0, if_neg oa]
 rw [if_neg h1, if_neg h1]
 by_cases h2 : a.fy > b.fy
 rw [if_pos h2, if_pos h2, uF oa, cond_false, l0, if_neg oa]
 rw [if_neg h2, if_neg h2, uT rfl, cond_true, qpU, ja, l0]
 congr 1
 by_cases h3 : (a.fm.length : Int) < b.fm.length
 rw [if_pos h3, if_pos h3, if_neg oa]
 rw [if_neg h3, if_neg h3]
 by_cases h4 : (a.fm.length : Int) > b.fm.length
 rw [if_pos h4, if_pos h4, if_neg oa]
 rw [if_neg h4, if_neg h4, if_pos rfl]
structure yD (l : List qi) : Prop where
 e : ∀ f ∈ l, qda f = some true
 s : l.Pairwise ltF
 n : l.length ≤ 5000
theorem qtg {l : List qi} (h : yD l) : qcD l = some true := by
 have hn := h.n
 have main : ∀ (rest done : List qi) (i : Nat), l = done ++ rest → i = done.length → q8 (some true) l rest i = some true := fun rest => by
  induction rest with
  | nil => intro done i _ _; rw [q8]
  | cons q rest ih =>
   intro done i e hi
   have next := ih (done ++ [q]) (i + 1) (by rw [e, jk]; rfl) (by rw [jb, jl]; omega)
   rw [q8, h.e q (by rw [e]; simp), ja, jy, cond_false]
   by_cases h0 : (i : Int) > 0
   · obtain ⟨pre, x, hx, hg⟩ := qn0 e hi oa oa
     have hlt : ltF x q := by
      have hs := h.s
      rw [e, hx, jk] at hs
      have := (jZ.1 hs).2.1
      exact (vn.1 this).1 q og
     rw [decide_eq_true h0, cond_true, hg, ja, qrX, ja, decide_eq_false (by have : y7 (zaM x) (zaM q) < 0 := hlt; omega), cond_false]
     exact next
   · rw [decide_eq_false h0, cond_false]
     exact next
 unfold qcD
 rw [decide_eq_false oa, cond_false]
 exact main l [] 0 rfl rfl
theorem qAe (n : Int) : ∀ l : List Int, qeb l n = some (decide (n ∈ l)) := fun l => by
 unfold qeb
 induction l with
 | nil => rw [qbu]; simp
 | cons x l ih =>
  rw [qbu]
  by_cases h : x = n
  rw [uT h, cond_true]
  simp [h]
  rw [uF h, cond_false, ih]
  have : ¬ n = x := fun e => h e.symm
  simp [this]
theorem qpw {k : Bool → Option (List qi)} (ids : List Int) : ∀ (l : List Int) (b : Bool), qao k ids l b = k (b && l.all fun x => decide (x ∈ ids))
 | [], b => by rw [qao]; simp
 | x :: l, b => by
  rw [qao]
  cases b with
  | true => rw [cond_true, qAe, ja, qpw ids l _, List.all_cons, jV]
  | false => rw [cond_false, qpw ids l _, Bool.false_and, Bool.false_and]
theorem qpz (ids : List Int) : ∀ (l out : List qi), out.length + l.length ≤ 1000000000 → qan (fun o => some o) ids l out = some (out ++ l.filter fun f => f.fm.all fun x => decide (x ∈ ids))
 | [], out, _ => by rw [qan, List.filter_nil, jv]
 | f :: l, out, h => by
  rw [jg] at h
  rw [qan, qpw, jV]
  cases hb : f.fm.all fun x => decide (x ∈ ids) with
  | true =>
   rw [cond_true, qfo oa (n := l.length) oa, ja, qpz ids l _ (by rw [jb, jl]; omega), List.filter_cons_of_pos (by rw [hb]), jk]
   rfl
  | false => rw [cond_false, qpz ids l out oa, Jh (by rw [hb]; simp)]
theorem qzZ (l : List qi) (hl : l.length ≤ 1000000) (ids : List Int) : qc8 l ids = some (l.filter fun f => f.fm.all fun x => decide (x ∈ ids)) := by
 unfold qc8
 rw [qpz ids l [] oe, jp]
theorem yD.filter {l : List qi} (h : yD l) (p : qi → Bool) : yD (l.filter p) := by
 have := vm p l
 have := h.n
 exact ⟨fun f hf => h.e f (jR.1 hf).1, h.s.filter _, by omega⟩
theorem qBS {α : Type} {R : α → α → Prop} (htr : ∀ a b c, R a b → R b c → R a c) {out : List α} (hs : out.Pairwise R) {j : Nat} {x : α} (h1 : ∀ p ∈ out.take j, R p x) (h2 : ∀ p m, out.drop j = p :: m → R x p) : (out.take j ++ [x] ++ out.drop j).Pairwise R := by
 have hs' := hs
 rw [← j6 j out] at hs'
 obtain ⟨a1, a2, a3⟩ := jZ.1 hs'
 have gt : ∀ p ∈ out.drop j, R x p := by
  cases hd : out.drop j with
  | nil => exact fun p h => by cases h
  | cons p0 m =>
   have h0 := h2 p0 m hd
   rw [hd] at a2
   have a4 := (vn.1 a2).1
   intro p hp
   rcases jh.1 hp with rfl | hp
   exact h0
   exact htr _ _ _ h0 (a4 p hp)
 rw [jZ, jZ]
 refine ⟨⟨a1, vB .., fun a ha b hb => ?_⟩, a2, fun a ha b hb => ?_⟩
 rw [ji.1 hb]
 exact h1 a ha
 rcases jj.1 ha with ha | ha
 exact a3 a ha b hb
 rw [ji.1 ha]
 exact gt b hb
theorem qyF (f : qi) : ∀ l : List qi, Yl (qbp (some false) f l) fun b => b = false → ∀ x ∈ l, y7 (zaM x) (zaM f) ≠ 0
 | [] => by rw [qbp]; exact .pure fun _ x h => by cases h
 | x :: l => by
  rw [qbp, qrX, ja]
  exact .cond (fun _ => .pure fun h => by cases h) fun h => (qyF f l).mono fun b hb h0 y hy => (jh.1 hy).elim (fun e => e ▸ eF h) (hb h0 y)
theorem qwn (k : Int → Option (List qi × Int)) (f : qi) : ∀ (l : List qi) (i : Nat), ∃ j : Nat, j ≤ l.length ∧ qa6 k f l i = k ((i + j : Nat) : Int) ∧ (∀ p ∈ l.take j, ltF p f) ∧ ∀ p m, l.drop j = p :: m → ¬ ltF p f
 | [], i => ⟨0, jn _, by rw [qa6]; rfl, fun p h => (by cases h), fun p m h => by cases h⟩
 | x :: l, i => by
  rw [qa6, qrX, ja, jg]
  by_cases h : y7 (zaM x) (zaM f) < 0
  obtain ⟨j, h1, h2, h3, h4⟩ := qwn k f l (i + 1)
  rw [decide_eq_true h, cond_true, h2]
  refine ⟨j + 1, by omega, by rw [show i + 1 + j = i + (j + 1) by omega], fun p hp => ?_, fun p m hm => h4 p m (by simpa using hm)⟩
  rw [vf] at hp
  exact (jh.1 hp).elim (fun e => e ▸ h) (h3 p)
  rw [decide_eq_false h, cond_false]
  exact ⟨0, by omega, rfl, fun p hp => (by cases hp), fun p m hm => by rw [vz] at hm; rw [← (List.cons.inj hm).1]; exact h⟩
theorem qCL (l : List qi) (f : qi) (hl : yD l) : Yl (qdz l f) fun r => r.2 = 0 → yD r.1 ∧ ∀ g ∈ r.1, g = f ∨ g ∈ l := by
 have hn := hl.n
 unfold qdz
 rw [qtg hl, ja, jy, cond_false]
 obtain ⟨b, hb, _⟩ := qnA f
 rw [hb, ja]
 refine .cond (fun _ => .pure fun h => absurd h (show ¬ (2 : Int) = 0 by omega)) fun h1 => ?_
 rw [nF h1] at hb
 unfold qcC
 refine .bind (qyF f l) fun r hr => .cond (fun _ => .pure fun h => absurd h (show ¬ (8 : Int) = 0 by omega)) fun h2 => .cond (fun _ => .pure fun h => absurd h (show ¬ (6 : Int) = 0 by omega)) fun h3 => ?_
 have h3 := dF h3
 have hne := hr h2
 obtain ⟨j, hj, e, k1, k2⟩ := qwn (fun k_14 => ((zS l 0 k_14).bind fun l_16 => ((zz 32 [] l_16).bind fun l_17 => ((zz 32 l_17 [f]).bind fun l_19 => ((zS l k_14 (l.length : Int)).bind fun l_21 => ((zz 32 l_19 l_21).bind fun l_22 => some (l_22, 0))))))) f l 0
 have s1 : zS l 0 (j : Int) = some (l.take j) := by
  unfold zS
  rw [if_pos oa]
  simp
 have s2 : zS l (j : Int) (l.length : Int) = some (l.drop j) := by
  unfold zS
  rw [if_pos oa]
  simp
 rw [e, jx, s1, ja, qnY oa oe, ja, qfo oa (n := 0) oe, ja, s2, ja, ql9 oa oe, ja]
 refine .pure fun _ => ⟨⟨fun g hg => ?_, qBS (R := ltF) (fun a b c => qrn (zaM a) (zaM b) (zaM c)) hl.s k1 fun p m hm => ?_, by simp; omega⟩, fun g hg => ?_⟩
 simp only [jj, ji] at hg
 rcases hg with (hg | hg) | hg
 exact hl.e g (j4 hg)
 rw [hg]
 exact hb
 exact hl.e g (jW hg)
 have h4 : ¬ y7 (zaM p) (zaM f) < 0 := k2 p m hm
 have h5 := hne p (jW (by rw [hm]; exact jc ..))
 exact qty _ _ oa
 simp only [jj, ji] at hg
 rcases hg with (hg | hg) | hg
 exact .inr (j4 hg)
 exact .inl hg
 exact .inr (jW hg)
/-! ### layers 19 and 6 -/
theorem qB4 {l : List (Int × At)} (h : za7 l) : qci l = some true := by
 have hn := h.n
 have main : ∀ (rest done : List (Int × At)) (i : Nat), l = done ++ rest → i = done.length → qaa (some true) l rest i = some true := fun rest => by
  induction rest with
  | nil => intro done i _ _; rw [qaa]
  | cons q rest ih =>
   intro done i e hi
   have next := ih (done ++ [q]) (i + 1) (by rw [e, jk]; rfl) (by rw [jb, jl]; omega)
   have hm : q ∈ l := by rw [e]; simp
   have h1 := h.p q hm
   have hr := h.a q hm
   have hw := (qeC hr).2.1
   rw [qaa, decide_eq_false oa, cond_false]
   by_cases h0 : (i : Int) > 0
   · obtain ⟨pre, x, hx, hg⟩ := qn0 e hi oa oa
     have hlt : x.1 < q.1 := by
      have hs := h.s
      rw [e, hx, jk] at hs
      have := (jZ.1 hs).2.1
      exact (vn.1 this).1 q og
     rw [decide_eq_true h0, cond_true, hg, ja, decide_eq_false oa, cond_false, qhr q.2 oa, hr, ja, jy, cond_false]
     exact next
   · rw [decide_eq_false h0, cond_false, qhr q.2 oa, hr, ja, jy, cond_false]
     exact next
 unfold qci
 rw [decide_eq_false oa, cond_false]
 exact main l [] 0 rfl rfl
theorem qCi (fuel : Nat) (hf : 1000000000 < fuel) {b : En} (h : za4 b) : qcG fuel b = some true := by
 have hn := h.len
 have hw : ∀ q ∈ b, wt q.2 ≤ 200 := fun q hq => (qe7 (h.t q hq)).2
 have l1 : ∀ (k : Option Bool) (l : List Int), (∀ x ∈ l, zx b x = none) → qaG k b l = k := fun k l => by
  induction l with
  | nil => intro _; rw [qaG]
  | cons x l ih =>
   intro hx
   rw [qaG, qkW, ja, hx x (jc ..)]
   exact ih fun y hy => hx y (je _ hy)
 have l0 : ∀ l : En, (∀ q ∈ l, q ∈ b) → qaD (some true) b fuel l = some true := fun l => by
  induction l with
  | nil => intro _; rw [qaD]
  | cons q l ih =>
   intro hq
   have hm := hq q (jc ..)
   have := hw q hm
   rw [qaD, qm7 fuel q.2 oa oa, ja, l1 _ _ fun x hx => h.f q hm x ((qg5.1 hx).elim (fun h => by cases h) id)]
   exact ih fun y hy => hq y (je _ hy)
 have main : ∀ (k : Option Bool) (rest done : En) (i : Nat), b = done ++ rest → i = done.length → q9 k b rest i = k := fun k rest => by
  induction rest with
  | nil => intro done i _ _; rw [q9]
  | cons q rest ih =>
   intro done i e hi
   have next := ih (done ++ [q]) (i + 1) (by rw [e, jk]; rfl) (by rw [jb, jl]; omega)
   have hm : q ∈ b := by rw [e]; simp
   have h1 := h.v q hm
   have hr := h.t q hm
   have hwq := hw q hm
   rw [q9, decide_eq_false oa, cond_false, decide_eq_false oa, cond_false]
   by_cases h0 : (i : Int) > 0
   · obtain ⟨pre, x, hx, hg⟩ := qn0 e hi oa oa
     have hlt : x.1 < q.1 := by
      have hs := h.s
      rw [e, hx, jk] at hs
      have := (jZ.1 hs).2.1
      exact (vn.1 this).1 q og
     rw [decide_eq_true h0, cond_true, hg, ja, decide_eq_false oa, cond_false, qgU q.2 oa, hr, ja, jy, cond_false]
     exact next
   · rw [decide_eq_false h0, cond_false, qgU q.2 oa, hr, ja, jy, cond_false]
     exact next
 unfold qcG
 rw [main _ b [] 0 rfl rfl]
 unfold qeq
 rw [l0 b fun q h => h, ja]
/-! ### layer 23 -/
theorem qpe (b : En) (fresh : Int) : ∀ l : List Int, (∀ x ∈ l, x < fresh ∧ zx b x = none) → qcu l fresh b = some true := fun l => by
 unfold qcu
 induction l with
 | nil => intro _; rw [qbh]
 | cons x l ih =>
  intro h
  obtain ⟨h1, h2⟩ := h x (jc ..)
  rw [qbh, decide_eq_false oa, cond_false, qkW, ja, h2]
  exact ih fun y hy => h y (je _ hy)
theorem qxk (fuel : Nat) (hf : 1000000000 < fuel) (g : Gl) (hw : wtL g.ts ≤ 1000000000) (b : En) (fresh : Int) (h : ∀ x ∈ zo g.ts, x < fresh ∧ zx b x = none) : qdk fuel g fresh b = some true := by
 unfold qdk qbJ
 rw [qiI fuel g.ts oa hw, ja, ja, qpe b fresh _ fun x hx => h x ((qg5.1 hx).elim (fun h => by cases h) id), ja]
theorem qtQ {ds : List qaS} {s : ByteArray} {n : Int} (h : yq ds s n) : qbL ds s n = some true := by
 obtain ⟨b, e, hb⟩ := qvj ds s n
 rw [e, hb.2 h]
def zaS (p : qc) (l : List (Int × At)) (h : List qi) : Prop := ∀ f ∈ h, ∃ r, zh p.fc f.fy = some r ∧ r.ft = [] ∧ f.fm.length = (r.fg ++ r.ft).length ∧ ∀ i ∈ f.fm, ∃ a, (i, a) ∈ l
theorem qzF {l : List (Int × At)} {i : Int} (h : ∃ a, (i, a) ∈ l) : ∃ r, qdm l i = some (r, true) := by
 obtain ⟨r, e, h1, h2⟩ := qoI i l
 obtain ⟨a, ha⟩ := h
 obtain ⟨x, b⟩ := r
 cases b with
 | true => exact ⟨x, e⟩
 | false => exact absurd ha (h2 rfl a)
theorem qul (fuel : Nat) (hf : 1000000000 < fuel) {p : qc} (hp : zW p) {l : List (Int × At)} {b : En} {h : List qi} {next fresh : Int} (st : za7 l) (bd : yG (fun x => x < fresh) b) (hh : yD h) (hpp : zaS p l h) (n1 : 1 ≤ next) (n2 : next ≤ 2147483648) (f1 : 0 ≤ fresh) (f2 : fresh ≤ 1048576) (id : ∀ q ∈ l, q.1 < next) (dc : ∀ q ∈ l, yq p.fH q.2.n (q.2.ts.length : Int)) (fr : ∀ q ∈ l, ∀ x ∈ zo q.2.ts, x < fresh ∧ zx b x = none) : qcX fuel p l b h next fresh = some true := by
 have l3 : ∀ (k : Option Bool) (ids : List Int), (∀ i ∈ ids, ∃ a, (i, a) ∈ l) → qav k l ids = k := fun k ids => by
  induction ids with
  | nil => intro _; rw [qav]
  | cons x ids ih =>
   intro hx
   obtain ⟨r, e⟩ := qzF (hx x (jc ..))
   rw [qav, e, ja]
   exact ih fun y hy => hx y (je _ hy)
 have l2 : ∀ m : List qi, (∀ f ∈ m, f ∈ h) → qas (some true) l p m = some true := fun m => by
  induction m with
  | nil => intro _; rw [qas]
  | cons f m ih =>
   intro hm
   obtain ⟨r, hr, hR, hlen, hids⟩ := hpp f (hm f (jc ..))
   have hb := qhd hr
   have h4 := (hp.r r hb.2.2).h4
   rw [jb] at h4 hlen
   rw [qas, decide_eq_false oa, cond_false, decide_eq_false oa, cond_false, hr, ja, qO, ja, hR]
   rw [show ((([] : List At).length : Int) == 0) = true by rfl, jy, cond_false, qhQ oa, ja]
   rw [hR, jv]
   rw [hR, jP] at hlen
   rw [show ((f.fm.length : Int) != (r.fg.length : Int)) = false by simp; omega, cond_false, l3 _ _ hids]
   exact ih fun y hy => hm y (je _ hy)
 have l1 : ∀ (k : Option Bool) (m : En), (∀ q ∈ m, q ∈ b) → qar k b fresh fuel m = k := fun k m => by
  induction m with
  | nil => intro _; rw [qar]
  | cons q m ih =>
   intro hm
   have hq := hm q (jc ..)
   have hw := (qe7 (bd.1.t q hq)).2
   have h1 := (bd.2 q hq).1
   rw [qar, decide_eq_false oa, cond_false, qm7 fuel q.2 oa oa, ja, qpe b fresh _ fun x hx => ?_, ja, jy, cond_false]
   exact ih fun y hy => hm y (je _ hy)
   have hx := (qg5.1 hx).elim (fun h => by cases h) (fun h => h)
   exact ⟨(bd.2 q hq).2 x hx, bd.1.f q hq x hx⟩
 have l0 : ∀ (k : Option Bool) (m : List (Int × At)), (∀ q ∈ m, q ∈ l) → qat k b fresh fuel next p m = k := fun k m => by
  induction m with
  | nil => intro _; rw [qat]
  | cons q m ih =>
   intro hm
   have hq := hm q (jc ..)
   have hw := (qeC (st.a q hq)).2.1
   have h1 := id q hq
   rw [qat, decide_eq_false oa, cond_false, qtQ (dc q hq), ja, jy, cond_false]
   unfold qcx
   rw [qiI fuel q.2.ts oa oa, ja, ja, qpe b fresh _ fun x hx => fr q hq x ((qg5.1 hx).elim (fun h => by cases h) (fun h => h)), ja, jy, cond_false]
   exact ih fun y hy => hm y (je _ hy)
 unfold qcX
 rw [qB4 st, ja, jy, cond_false, qCi fuel hf bd.1, ja, jy, cond_false, qtg hh, ja, jy, cond_false, decide_eq_false oa, cond_false, decide_eq_false oa, cond_false, decide_eq_false oa, cond_false, decide_eq_false oa, cond_false, l0 _ l fun q h => h, l1 _ b fun q h => h]
 exact l2 h fun f h => h
/-! ### layer 26 -/
def zbV (p : qc) (next fresh : Int) (b : En) (f : qn) : Prop := (f.fd = 0 → f.fq = 0 ∧ zn f.fk = true ∧ f.fk.op ≤ 4 ∧ (f.fk.op = 0 → yq p.fH f.fk.n (f.fk.ts.length : Int)) ∧ ∀ x ∈ zo f.fk.ts, x < fresh ∧ zx b x = none) ∧ (f.fd ≠ 0 → 1 ≤ f.fd ∧ f.fd < next ∧ f.fk = ⟨0, ⟨#[]⟩, []⟩ ∧ -1 ≤ f.fq ∧ f.fq ≤ ((zab p.fc 0).length : Int))
structure zbj (p : qc) (c : qd) : Prop where
 sl : c.fb.length ≤ 1000
 st : za7 c.fj
 bd : yG (fun x => x < c.fz) c.fu
 hh : yD c.fC
 hp : zaS p c.fj c.fC
 n1 : 1 ≤ c.fA
 n2 : c.fA ≤ 2147483648
 f1 : 0 ≤ c.fz
 f2 : c.fz ≤ 1048576
 id : ∀ q ∈ c.fj, q.1 < c.fA
 dc : ∀ q ∈ c.fj, yq p.fH q.2.n (q.2.ts.length : Int)
 fr : ∀ q ∈ c.fj, ∀ x ∈ zo q.2.ts, x < c.fz ∧ zx c.fu x = none
 f : ∀ f ∈ c.fb, zbV p c.fA c.fz c.fu f
theorem qwZ {p : qc} {g : Gl} (h1 : zn g = true) (h2 : g.op ≤ 4) (h3 : g.op = 0 → yq p.fH g.n (g.ts.length : Int)) : qc6 p g = some true := by
 have hw := (qe8 h1).2
 unfold qc6
 rw [qgu g oa, h1, ja, jy, cond_false, decide_eq_false oa, cond_false]
 by_cases h0 : g.op = 0
 rw [show (g.op != (0 : Int)) = false by simpa using h0, cond_false, qtQ (h3 h0), ja]
 rw [show (g.op != (0 : Int)) = true by simpa using h0, cond_true]
theorem qt7 (fuel : Nat) (hf : 1000000000 < fuel) {p : qc} (hp : zW p) {x : Int} (hchk : qcj fuel p = some (x, 0)) {c : qd} (h : zbj p c) : qbU fuel p c = some true := by
 have hsl := h.sl
 have l0 : ∀ l : List qn, (∀ f ∈ l, f ∈ c.fb) → qam (some true) c fuel p (zab p.fc 0) l = some true := fun l => by
  induction l with
  | nil => intro _; rw [qam]
  | cons f l ih =>
   intro hl
   have next := ih fun y hy => hl y (je _ hy)
   obtain ⟨k1, k2⟩ := h.f f (hl f (jc ..))
   rw [qam]
   by_cases h0 : f.fd = 0
   · obtain ⟨a1, a2, a3, a4, a5⟩ := k1 h0
     have hw := (qe8 a2).2
     rw [uT h0, cond_true, show (f.fq != (0 : Int)) = false by simpa using a1, cond_false, qwZ a2 a3 a4, ja, jy, cond_false, qxk fuel hf _ oa _ _ a5, ja, jy, cond_false]
     exact next
   · obtain ⟨a1, a2, a3, a4, a5⟩ := k2 h0
     rw [uF h0, cond_false, decide_eq_false oa, cond_false, decide_eq_false oa, cond_false, a3]
     rw [show qdR ⟨0, ⟨#[]⟩, []⟩ = some true by kernel_rfl, ja, jy, cond_false, decide_eq_false oa, cond_false, decide_eq_false oa, cond_false]
     exact next
 unfold qbU
 rw [hchk, ja]
 rw [show ((x, (0 : Int)).2 != (0 : Int)) = false by rfl, cond_false, decide_eq_false oa, cond_false, qul fuel hf hp h.st h.bd h.hh h.hp h.n1 h.n2 h.f1 h.f2 h.id h.dc h.fr, ja, jy, cond_false, qyV hp, ja]
 exact l0 _ fun f h => h
/-! ### rules of a valid program -/
structure zbd (ds : List qaS) (r : qk) : Prop where
 d : ∀ g ∈ r.fp, g.op = 0 → yq ds g.n (g.ts.length : Int)
 o : ∀ g ∈ r.fp, g.op ≤ 4
 v : ∀ g ∈ r.fp, ∀ x ∈ zo g.ts, 0 ≤ x ∧ x < r.fL
 n : 0 ≤ r.fL
 m : r.fL ≤ 1000000
theorem qBk {k : List T → Option (List Int)} : ∀ (l : List Gl) (ts : List T), (∀ a ∈ l, zn a = true) → wtL ts + 200 * l.length ≤ 1000000 → ∀ Q : List Int → Prop, (∀ us, wtL us ≤ wtL ts + 200 * l.length → (∀ t ∈ ts, t ∈ us) → (∀ g ∈ l, ∀ t ∈ g.ts, t ∈ us) → Yl (k us) Q) → Yl (qaT k l ts) Q
 | [], ts, _, hw, Q, hk => by rw [qaT]; exact hk ts oa (fun t h => h) fun g h => by cases h
 | a :: l, ts, ha, hw, Q, hk => by
  rw [jg] at hw hk
  have h1 := (qe8 (ha a (jc ..))).2
  have h2 := qfR ts
  have h3 := qfR a.ts
  rw [qaT, ql9 oa oa, ja]
  refine qBk l _ (fun b hb => ha b (je _ hb)) (by rw [qks]; omega) Q fun us hus k1 k2 => hk us (by rw [qks] at hus; omega) (fun t ht => k1 t (jo _ ht)) fun g hg t ht => ?_
  rcases jh.1 hg with rfl | hg
  exact k1 t (jt _ ht)
  exact k2 g hg t ht
theorem qwR (fuel : Nat) (hf : 1000000000 < fuel) {r : qk} (h : yz r) : Yl (qdo fuel r) fun v => (∀ g ∈ r.fp, ∀ x ∈ zo g.ts, x ∈ v) ∧ v.length ≤ 1000000 := by
 have h4 := h.h4
 have h4' := h4
 have hg := h.gl
 have hb := h.bl
 have hgl : (r.fx ++ r.fp).length ≤ 24 := by rw [jb]; omega
 rw [jb] at h4'
 unfold qdo
 rw [qir oa, ja]
 refine qBA _ [] h.a (by simp [wtL]; omega) _ fun us hus => ?_
 rw [qjh oa, ja]
 simp only [wtL] at hus
 refine qBk _ us h.g oa _ fun ws hws _ k2 => ?_
 rw [qiI fuel ws oa oa, ja]
 refine .pure ⟨fun g hg x hx => qg5.2 (.inr ?_), by have := qlx (zo ws) []; have := qmr ws; simp only [jP] at *; omega⟩
 obtain ⟨t, ht, hx⟩ := qvR hx
 exact qo0 (k2 g (jt _ hg) t ht) hx
theorem quT (fuel : Nat) (hf : 1000000000 < fuel) (ds : List qaS) {r : qk} (h : yz r) : Yl (qbY fuel ds r) fun e => e = 0 → (∀ g ∈ r.fp, g.op = 0 → yq ds g.n (g.ts.length : Int)) ∧ ∀ g ∈ r.fp, g.op < 5 ∨ 12 < g.op := by
 obtain ⟨e, he, _⟩ := qnH fuel hf ds h
 refine ⟨e, he, fun h0 => ?_⟩
 subst h0
 have h4 := h.h4
 have hg := h.gl
 have hb := h.bl
 rw [jb] at h4
 unfold qbY at he
 rw [qir oa, ja, qjh oa, ja] at he
 have l2 : ∀ (k : Option Int) (l : List Gl), qaN k l = some 0 → ∀ g ∈ l, g.op < 5 ∨ 12 < g.op := fun k l => by
  induction l with
  | nil => intro _ g h; cases h
  | cons x l ih =>
   intro h
   rw [qaN] at h
   obtain ⟨b, eb, hb⟩ := qvc x.op
   rw [eb, ja] at h
   cases b with
   | true => cases h
   | false => exact fun g hg => (jh.1 hg).elim (fun e => e ▸ hb rfl) (ih h g)
 have l1 : ∀ (k : Option Int) (l : List Gl), qX k l = some 0 → k = some 0 := fun k l => by
  induction l with
  | nil => intro h; rw [qX] at h; exact h
  | cons x l ih =>
   intro h
   rw [qX] at h
   obtain ⟨b, eb, _⟩ := qvc x.op
   rw [eb, ja] at h
   cases b with
   | true => exact ih h
   | false =>
    cases hx : (x.op != (1 : Int)) with
    | true =>
     rw [hx] at h
     cases h
    | false =>
     rw [hx] at h
     exact ih h
 have l0 : ∀ (k : Option Int) (l : List At), qai k ds l = some 0 → k = some 0 := fun k l => by
  induction l with
  | nil => intro h; rw [qai] at h; exact h
  | cons x l ih =>
   intro h
   rw [qai] at h
   obtain ⟨e, _, h⟩ := qfB h
   by_cases e0 : e = 0
   rw [e0] at h
   exact ih h
   rw [show (e != (0 : Int)) = true by simpa using e0, cond_true] at h
   exact absurd (Option.some.inj h) e0
 have he := l0 _ _ he
 obtain ⟨c, ec, hc⟩ := qo5 ds (r.fx ++ r.fp)
 unfold qes at he
 rw [ec, ja] at he
 by_cases c0 : c = 0
 rw [c0] at he
 exact ⟨fun g hg => hc c0 g (jt _ hg), l2 _ _ (l1 _ _ he)⟩
 rw [show (c != (0 : Int)) = true by simpa using c0, cond_true] at he
 exact absurd (Option.some.inj he) c0
theorem qyP {Q : Int → Prop} (hQ : Q 2) {k : Option Int} : ∀ (l : List Int) (i : Nat), ((∀ (j : Nat) x, l[j]? = some x → x = ((i + j : Nat) : Int)) → Yl k Q) → Yl (qY k l i) Q
 | [], i, hk => by rw [qY]; exact hk fun j x h => by simp at h
 | x :: l, i, hk => by
  rw [qY]
  refine .cond (fun _ => .pure hQ) fun h => qyP hQ l (i + 1) fun hl => hk fun j y hy => ?_
  cases j with
  | zero =>
   rw [vK] at hy
   rw [← Option.some.inj hy]
   exact bF h
  | succ j =>
   rw [Jd] at hy
   rw [hl j y hy]
   congr 1
   omega
theorem qt9 (fuel : Nat) (hf : 1000000000 < fuel) (ds : List qaS) (r : qk) (h : BkR r) : Yl (qcp fuel ds r) fun e => e = 0 → zbd ds r := by
 unfold qcp
 have hla := h.la
 have hlg := h.lg
 rw [qir oa, ja, qjh oa, ja]
 refine .cond (fun _ => .pure og) fun e0 => .cond (fun _ => .pure og) fun e4 => .cond (fun _ => .pure og) fun eg => .cond (fun _ => .pure og) fun eb => ?_
 have e0 := eF e0
 have e4 := dF e4
 have eg := dF eg
 have eb := dF eb
 refine qxM og _ h.a fun ha => qyW og _ h.g fun hg => ?_
 have ok : yz r := ⟨ha, hg, by omega, by omega, by omega, by omega⟩
 refine .bind (qwR fuel hf ok) fun v hv => qyP og v 0 fun hl => .cond (fun _ => .pure og) fun hn => ?_
 have hn := bF hn
 have fin : Yl ((qbY fuel ds r).bind fun r => some r) fun e => e = 0 → zbd ds r := .bind (quT fuel hf ds ok) fun e he => .pure fun h0 => by
  obtain ⟨m1, m2⟩ := he h0
  have hv2 := hv.2
  refine ⟨m1, fun g hg' => ?_, fun g hg' x hx => ?_, by omega, by omega⟩
  have := m2 g hg'
  have := qnv (hg g (jt _ hg'))
  omega
  obtain ⟨j, hj, e⟩ := List.getElem_of_mem (hv.1 g hg' x hx)
  have := hl j x (by rw [js hj, e])
  omega
 refine .cond (fun _ => ?_) fun _ => fin
 rw [qkK, if_pos h.n, ja]
 exact .cond (fun _ => .pure og) fun _ => fin
theorem qvW (fuel : Nat) (hf : 1000000000 < fuel) (p : qc) : ∀ (l : List qk) (i : Nat), (∀ r ∈ l, BkR r) → Yl (qaH (some (0, 0)) fuel p l i) fun e => e.2 = 0 → ∀ r ∈ l, zbd p.fH r
 | [], i, _ => by rw [qaH]; exact .pure fun _ r h => by cases h
 | r :: l, i, h => by
  rw [qaH]
  refine .bind (qt9 fuel hf _ r (h r (jc ..))) fun e he => .cond (fun h1 => .pure fun h2 => absurd h2 (bT h1)) fun h1 => ?_
  refine (qvW fuel hf p l (i + 1) fun x hx => h x (je _ hx)).mono fun e2 h2 h3 x hx => ?_
  rcases jh.1 hx with rfl | hx
  exact he (bF h1)
  exact h2 h3 x hx
theorem qAH (fuel : Nat) (hf : 1000000000 < fuel) (p : qc) (h : BkP p) : Yl (qcj fuel p) fun e => e.2 = 0 → ∀ r ∈ p.fc, zbd p.fH r := by
 unfold qcj
 refine .cond (fun _ => .pure og) fun _ => qup p (fun a b hb h => absurd h hb) ?_ _ 0 h.n oa
 exact .cond (fun _ => .pure og) fun hl => qvW fuel hf p _ 0 h.r
/-! ### what stands in an environment comes from the store -/
mutual
theorem qC4 : ∀ (p t : T) (l : List T), vT p t = some l → ∀ u ∈ l, ∀ x ∈ zP u, x ∈ zP t
 | .mk k i s ar, t, l, h, u, hu, x, hx => by
  rcases zae k with h1 | h2 | ⟨h1, h2⟩
  subst h1
  rw [qt3 rfl] at h
  obtain rfl := Option.some.inj h
  rw [ji.1 hu] at hx
  exact hx
  subst h2
  rw [qvH rfl] at h
  split at h
  rename_i hk
  rw [qlT hk.1]
  exact qx1 ar t.ar l h u hu x hx
  cases h
  rw [qwt (p := .mk k i s ar) h1 h2] at h
  split at h
  obtain rfl := Option.some.inj h
  cases hu
  cases h
theorem qx1 : ∀ (ps ts l : List T), vL ps ts = some l → ∀ u ∈ l, ∀ x ∈ zP u, x ∈ zo ts
 | [], [], l, h, u, hu, x, hx => by
  rw [vL] at h
  obtain rfl := Option.some.inj h
  cases hu
 | p :: ps, t :: ts, l, h, u, hu, x, hx => by
  rw [vL] at h
  obtain ⟨a, ha, h⟩ := qfB h
  obtain ⟨b, hb, h⟩ := qfB h
  obtain rfl := Option.some.inj h
  rw [zo]
  rcases jj.1 hu with hu | hu
  exact jo _ (qC4 p t a ha u hu x hx)
  exact jt _ (qx1 ps ts b hb u hu x hx)
 | [], _ :: _, l, h, _, _, _, _ => by
  rw [vL] at h
  cases h
 | _ :: _, [], l, h, _, _, _, _ => by
  rw [vL] at h
  cases h
end
theorem qzz : ∀ (l : List (Int × T)) (f g : Int → Option T), rn f l = some g → ∀ v u, g v = some u → f v = some u ∨ u ∈ l.map (·.2)
 | [], f, g, h, v, u, hv => by
  rw [rn] at h
  cases h
  exact .inl hv
 | (x, w) :: l, f, g, h, v, u, hv => by
  cases hf : f x with
  | none =>
   rw [qmR hf] at h
   rcases qzz l _ g h v u hv with h1 | h1
   unfold upd at h1
   by_cases e : v = x
   rw [if_pos e] at h1
   exact .inr (by rw [← Option.some.inj h1]; simp)
   rw [if_neg e] at h1
   exact .inl h1
   exact .inr (je _ h1)
  | some w' =>
   rw [qnI hf] at h
   split at h
   exact (qzz l f g h v u hv).imp id fun h1 => je _ h1
   cases h
theorem qBZ {f g : Int → Option T} {ps ts : List T} (h : mtc f (zo ps) (vL ps ts) = some g) (v : Int) (u : T) (hv : g v = some u) : f v = some u ∨ ∀ x ∈ zP u, x ∈ zo ts := by
 unfold mtc at h
 obtain ⟨l, hl, h⟩ := qfB h
 refine (qzz _ f g h v u hv).imp id fun h1 => ?_
 obtain ⟨q, hq, rfl⟩ := jq.1 h1
 exact qx1 ps ts l hl q.2 (List.of_mem_zip hq).2
def zbp (l : List (Int × At)) (env : En) : Prop := ∀ v u, zx env v = some u → ∃ q ∈ l, ∀ x ∈ zP u, x ∈ zo q.2.ts
theorem qx9 {Q : En × Bool → Prop} (hQ : Q ([], false)) (fuel : Nat) (hf : 1000000000 < fuel) {l : List (Int × At)} (hst : ∀ q ∈ l, wtL q.2.ts ≤ 200) (ids : List Int) (k : En → Option (En × Bool)) (all : List At) (hall : ∀ a ∈ all, zy a = true) (hlen : ids.length = all.length) (h4 : all.length ≤ 4) (hk : ∀ env, EnW 200 env → zbp l env → Yl (k env) Q) :
 ∀ (hs ds : List At) (env : En), all = ds ++ hs → EnW 200 env → zbp l env → env.length ≤ 200 * ds.length → Yl (qap k fuel ids l hs env ds.length) Q
 | [], ds, env, he, h3, hfs, _ => by
  rw [qap]
  exact hk env h3 hfs
 | h :: hs, ds, env, he, h3, hfs, hel => by
  have hl : all.length = ds.length + (hs.length + 1) := by rw [he, jb, jg]
  obtain ⟨x, hx, _⟩ := ye (l := ids) (i := (ds.length : Int)) oa oa
  have hh := (qeC (hall h (by rw [he]; simp))).2.1
  have hocc := qmr h.ts
  rw [qap, show ((ds.length : Int) - 0 : Int).toNat = ds.length by omega, hx, ja]
  refine qyU hQ ids ds.length x hx ds.length 0 oa fun _ => ?_
  refine .bind (quY l x) fun r hr => .cond (fun _ => .pure hQ) fun hfd => ?_
  have hmem := hr (nF hfd)
  have ha := hst _ hmem
  dsimp only at ha
  obtain ⟨env', ok, e, hres⟩ := quQ (W := 200) oa fuel h r.1 env oa oa ha h3 oa
  rw [e, ja]
  refine .cond (fun _ => .pure hQ) fun hok => ?_
  have hok := nF hok
  rcases hres with ⟨h5, _⟩ | ⟨_, h6, h7, h8⟩
  dsimp only at hok
  rw [h5] at hok
  cases hok
  have hn : h.n = r.1.n := by
   by_cases hn : h.n = r.1.n
   exact hn
   rw [if_neg hn] at h6
   cases h6
  rw [if_pos hn] at h6
  have := qx9 hQ fuel hf hst ids k all hall hlen h4 hk hs (ds ++ [h]) env' (by rw [he, jk]; rfl) h8 (fun v u hv => by
   rcases qBZ h6 v u hv with h9 | h9
   exact hfs v u h9
   exact ⟨_, hmem, h9⟩) (by rw [jb, jl]; omega)
  rw [jb, jl] at this
  exact this
theorem qBD (fuel : Nat) (hf : 1500000000 < fuel) {p : qc} (hp : zW p) {l : List (Int × At)} (hst : ∀ q ∈ l, wtL q.2.ts ≤ 200) {b : En} (hbw : ∀ q ∈ b, wt q.2 ≤ 200) (h : List qi) (rule : Int) (r : qk) (hr : zh p.fc rule = some r) (ids : List Int) : Yl (q7 fuel p l b [] h rule ids) fun e => e.2 = true → zbp l e.1 := by
 have hrule := hp.r r (qdB hr)
 have h4 := hrule.h4
 have h4' := h4
 rw [jb] at h4'
 unfold q7
 rw [hr, ja, qhQ oa, ja]
 refine .cond (fun _ => .pure fun h => by cases h) fun hlen => ?_
 have hlen := bF hlen
 refine qx9 (fun h => by cases h) fuel oa hst ids _ (r.fg ++ r.ft) hrule.a oa h4 (fun env h3 hfs => ?_) _ [] [] rfl (fun q hq => by cases hq) (fun v u hv => by cases hv) og
 have guard : ∀ gs : List Gl, (∀ g ∈ gs, zn g = true) → Yl (qaP ((qO r).bind fun r_9 => (bif r_9 then ((qcC h (⟨rule, ids⟩ : qi)).bind fun r_11 => (bif r_11 then some ([], false) else some (env, true))) else some (env, true))) b env fuel [] gs) fun e => e.2 = true → zbp l e.1 := fun gs => by
  induction gs with
  | nil =>
   intro _
   rw [qaP, qO, ja]
   exact .cond (fun _ => .bind (qzC h _) fun _ _ => .cond (fun _ => .pure fun h => by cases h) fun _ => .pure fun _ => hfs) fun _ => .pure fun _ => hfs
  | cons g gs ih =>
   intro hg
   have hgw := (qe8 (hg g (jc ..))).2
   have hw := qt4 (W := 200) oa (fun v => qBF oa h3 0 v) g.ts
   have hw2 : wtL g.ts * 200 ≤ 200 * 200 := jK _ hgw
   rw [qaP, qr9 env 0 fuel g oa oa, ja]
   exact .bind (qCY fuel hf hbw [] (fun g h => by cases h) _ (show wtL (inL (ef env 0) g.ts) ≤ 40000 by omega)) fun _ _ => .cond (fun _ => .pure fun h => by cases h) fun _ => ih fun x hx => hg x (je _ hx)
 exact guard r.fx fun g hg => hrule.g g (jo _ hg)
/-! ### substitutions and instances: their variables -/
mutual
theorem qDv (b : En) : ∀ (t : T) (x : Int), x ∈ zP (apT b t) → (x ∈ zP t ∧ zx b x = none) ∨ ∃ q ∈ b, x ∈ zP q.2
 | .mk k i s ar, x, hx => by
  rcases zae k with h1 | h2 | ⟨h1, h2⟩
  rw [qBE (t := .mk k i s ar) h1] at hx
  cases hu : zx b i with
  | none =>
   rw [show zx b (T.mk k i s ar).i = none from hu] at hx
   have hx : x ∈ zP (T.mk k i s ar) := hx
   refine .inl ⟨hx, ?_⟩
   rw [qlS (t := .mk k i s ar) h1] at hx
   rw [ji.1 hx]
   exact hu
  | some u =>
   rw [show zx b (T.mk k i s ar).i = some u from hu] at hx
   exact .inr ⟨_, qnB hu, hx⟩
  rw [qBz (t := .mk k i s ar) h2, qlT (t := T.mk (T.mk k i s ar).k _ _ _) h2] at hx
  rw [qlT (t := .mk k i s ar) h2]
  exact qud b ar x hx
  rw [qCg (t := .mk k i s ar) h1 h2, qrB (t := .mk k i s ar) h1 h2] at hx
  cases hx
theorem qud (b : En) : ∀ (l : List T) (x : Int), x ∈ zo (apL b l) → (x ∈ zo l ∧ zx b x = none) ∨ ∃ q ∈ b, x ∈ zP q.2
 | [], x, hx => by simp [apL, zo] at hx
 | t :: l, x, hx => by
  rw [apL, zo] at hx
  rw [zo]
  rcases jj.1 hx with hx | hx
  exact (qDv b t x hx).imp (fun h => ⟨jo _ h.1, h.2⟩) id
  exact (qud b l x hx).imp (fun h => ⟨jt _ h.1, h.2⟩) id
end
mutual
theorem qDy (f : Int → T) : ∀ (t : T) (x : Int), x ∈ zP (inT f t) → ∃ v ∈ zP t, x ∈ zP (f v)
 | .mk k i s ar, x, hx => by
  rcases zae k with h1 | h2 | ⟨h1, h2⟩
  rw [qBN (t := .mk k i s ar) _ h1] at hx
  exact ⟨i, by rw [qlS (t := .mk k i s ar) h1]; exact ji.2 rfl, hx⟩
  rw [qCt (t := .mk k i s ar) _ h2, qlT rfl] at hx
  rw [qlT (t := .mk k i s ar) h2]
  exact que f ar x hx
  rw [qCA (t := .mk k i s ar) _ h1 h2] at hx
  split at hx
  rw [qrB (by simp [T.k]) (by simp [T.k])] at hx
  cases hx
  rw [qrB (t := .mk k i s ar) h1 h2] at hx
  cases hx
theorem que (f : Int → T) : ∀ (l : List T) (x : Int), x ∈ zo (inL f l) → ∃ v ∈ zo l, x ∈ zP (f v)
 | [], x, hx => by simp [inL, zo] at hx
 | t :: l, x, hx => by
  rw [inL, zo] at hx
  rw [zo]
  rcases jj.1 hx with hx | hx
  obtain ⟨v, hv, h⟩ := qDy f t x hx
  exact ⟨v, jo _ hv, h⟩
  obtain ⟨v, hv, h⟩ := que f l x hx
  exact ⟨v, jt _ hv, h⟩
end
theorem qyZ (f : Int → T) : ∀ l : List T, (inL f l).length = l.length
 | [] => by rw [inL]
 | t :: l => by rw [inL, jg, jg, qyZ f l]
theorem qyJ {a b : Int} (ha : 0 ≤ a) (ha2 : a ≤ 2000000) (hb : 0 ≤ b) (hb2 : b ≤ 2000000) : qb9 a b = some false := by
 unfold qb9
 rw [qgI oa, decide_eq_false (show ¬ a + b < 0 by omega), decide_eq_false (show ¬ a < 0 by omega)]
 cases decide (a > 0) <;> cases decide (b > 0) <;> rfl
/-! ### what the application of a rule leaves -/
theorem qCK : ∀ (xs : List Int) {l : List (Int × At)}, za7 l → za7 (yi l xs)
 | [], l, h => by rw [yi]; exact h
 | x :: xs, l, h => by
  rw [yi]
  have := vm (fun q : Int × At => decide (q.1 ≠ x)) l
  have := h.n
  exact qCK xs ⟨fun q hq => h.a q (jR.1 hq).1, fun q hq => h.p q (jR.1 hq).1, h.s.filter _, by omega⟩
theorem qA7 : ∀ (xs : List Int) (l : List (Int × At)) (x : Int), x ∈ xs → ∀ a, (x, a) ∉ yi l xs
 | y :: xs, l, x, hx, a => by
  rw [yi]
  rcases jh.1 hx with rfl | hx
  exact fun h => by simpa using (jR.1 (qo2 xs _ _ h)).2
  exact qA7 xs _ x hx a
theorem qyE {Q : List (Int × At) × List qi × List Gl × Int → Prop} {k : List Int → ApR} : ∀ (l : List (Int × At)) (left : List Int), left.length + l.length ≤ 1000000000 → Yl (k (left ++ l.map (·.1))) Q → Yl (qah k l left) Q
 | [], left, _, hk => by
  rw [qah]
  rw [vj, jv] at hk
  exact hk
 | q :: l, left, h, hk => by
  rw [jg] at h
  rw [qah, qfo oa (n := l.length) oa, ja]
  exact qyE l _ (by rw [jb, jl]; omega) (by rw [jk]; exact hk)
theorem quq (fuel : Nat) (hf : 1500000000 < fuel) {p : qc} (hp : zW p) {l : List (Int × At)} (hst : za7 l) {h : List qi} (hh : yD h) (hpp : zaS p l h) (fresh : Int) (rule : Int) (r : qk) (hr : zh p.fc rule = some r) (ids : List Int) (env : En) (he : zag l r ids env) : Yl (qck fuel p l h env fresh rule ids) fun e => e.2.2.2 = 0 → wr (fresh + r.fL) ≤ 1048576 ∧ yD e.2.1 ∧ zaS p e.1 e.2.1 := by
 have hrule := hp.r r (qdB hr)
 have hlen := he.len
 have hlen' := hlen
 rw [jb] at hlen
 have hbl := hrule.bl
 have hsl := hst.n
 have hhn := hh.n
 unfold qck
 rw [hr, ja]
 refine .cond (fun _ => .pure fun h => absurd h (show ¬ (6 : Int) = 0 by omega)) fun hv => ?_
 have hv := dF hv
 rw [show ((ids.length : Int) - (r.fg.length : Int)).toNat = ids.length - r.fg.length by omega]
 have hrl := qA9 (ids.drop r.fg.length) l
 refine qyT ids _ _ l hst.s oa oa (qyE _ [] oe ?_)
 rw [jp, qzZ h oa, ja]
 generalize hL : yi l (ids.drop r.fg.length) = L
 have kept : zaS p L (h.filter fun f => f.fm.all fun x => decide (x ∈ L.map (·.1))) := fun f hf => by
  obtain ⟨hf1, hf2⟩ := jR.1 hf
  obtain ⟨r', a1, a2, a3, _⟩ := hpp f hf1
  refine ⟨r', a1, a2, a3, fun i hi => ?_⟩
  have := jB.1 hf2 i hi
  obtain ⟨q, hq, rfl⟩ := jq.1 (of_decide_eq_true this)
  exact ⟨q.2, hq⟩
 have fin : ∀ h2 : List qi, yD h2 → zaS p L h2 → Yl (qaJ (fun body_22 => some (L, h2, body_22, 0)) env fresh fuel r.fp []) fun e => e.2.2.2 = 0 → wr (fresh + r.fL) ≤ 1048576 ∧ yD e.2.1 ∧ zaS p e.1 e.2.1 := fun h2 k1 k2 =>
  quA fuel hf he.w fresh (fun h => absurd h (show ¬ (6 : Int) = 0 by omega)) _ [] (fun g hg => (qe8 (hrule.g g (jt _ hg))).2) oe fun hb => .pure fun _ => ⟨by omega, k1, k2⟩
 unfold qdr qO
 rw [ja]
 refine .cond (fun hR => .bind (qCL _ _ (hh.filter _)) fun r2 h2 => .cond (fun _ => .pure fun h => absurd h (show ¬ (6 : Int) = 0 by omega)) fun h3 => ?_) fun _ => fin _ (hh.filter _) kept
 have hR0 : r.ft = [] := jz (by have := eT hR; omega)
 obtain ⟨k1, k2⟩ := h2 (bF h3)
 refine fin _ k1 fun f hf => ?_
 rcases k2 f hf with rfl | hf
 refine ⟨r, hr, hR0, hlen', fun i hi => ?_⟩
 have hL' : L = l := by
  rw [← hL, vY (by rw [hR0] at hlen; simp at hlen; omega), yi]
 rw [hL']
 have key : ∀ (hs : List At) (is : List Int), hm l env hs is → ∀ i ∈ is, ∃ a, (i, a) ∈ l := fun hs => by
  induction hs with
  | nil =>
   intro is h
   cases is with
   | nil => exact fun i h => by cases h
   | cons x xs => exact h.elim
  | cons a hs ih =>
   intro is h
   cases is with
   | nil => exact h.elim
   | cons x xs =>
    obtain ⟨⟨b, hb, _⟩, h2⟩ := h
    exact fun i hi => (jh.1 hi).elim (fun e => ⟨b, by rw [e]; exact hb⟩) (ih xs h2 i)
 exact key _ _ he.fit i hi
 exact kept f hf
theorem zbV.more {p : qc} {next fresh next' fresh' : Int} {b : En} {f : qn} (h : zbV p next fresh b f) (h1 : next ≤ next') (h2 : fresh ≤ fresh') : zbV p next' fresh' b f :=
 ⟨fun h0 => by
  obtain ⟨a1, a2, a3, a4, a5⟩ := h.1 h0
  exact ⟨a1, a2, a3, a4, fun x hx => ⟨by have := (a5 x hx).1; omega, (a5 x hx).2⟩⟩, fun h0 => by
  obtain ⟨a1, a2, a3, a4, a5⟩ := h.2 h0
  exact ⟨a1, by omega, a3, a4, a5⟩⟩
theorem zbj.stk {p : qc} {c : qd} (h : zbj p c) {st : List qn} (hl : st.length ≤ 1000) (hf : ∀ f ∈ st, zbV p c.fA c.fz c.fu f) : zbj p { c with fb := st } := ⟨hl, h.st, h.bd, h.hh, h.hp, h.n1, h.n2, h.f1, h.f2, h.id, h.dc, h.fr, hf⟩
theorem yG.mono {P Q : Int → Prop} {b : En} (h : yG P b) (k : ∀ x, P x → Q x) : yG Q b := ⟨h.1, fun q hq => ⟨k _ (h.2 q hq).1, fun x hx => k x ((h.2 q hq).2 x hx)⟩⟩
theorem qy1 {P : Int → Prop} {b b' : En} (sol : yG P b') {l : List T} (h : ∀ x ∈ zo l, P x ∧ zx b x = none) : ∀ x ∈ zo (apL b' l), P x ∧ zx b' x = none := fun x hx => (qud b' l x hx).elim (fun k => ⟨(h x k.1).1, k.2⟩) fun ⟨q, hq, k⟩ => ⟨(sol.2 q hq).2 x k, sol.1.f q hq x k⟩
theorem qwJ {fuel : Nat} (hf : 1500000000 < fuel) {p : qc} {c : qd} (hc : zbj p c) {pre : List qn} {f : qn} (hs : c.fb = pre ++ [f]) {t : qd} {b : En} {ids : List Int} (h0 : f.fd = 0) (hop : f.fk.op ≠ 0) (h : zaT fuel c pre f t b ids) : zbj p t := by
 obtain ⟨_, g2, g3, _, g5⟩ := (hc.f f (by rw [hs]; simp)).1 h0
 obtain ⟨bound, he⟩ := h.eq
 obtain ⟨r, er, hr⟩ := qy3 (Pv := fun x => x < c.fz) fuel hf hc.bd f.fk g2 hop g3 fun v hv => (g5 v hv).1
 obtain rfl := Option.some.inj (er.symm.trans he)
 have sol : yG (fun x => x < c.fz) b := hr rfl
 obtain ⟨stk, sto, bi, fi, ne, fr, fl⟩ := t
 obtain rfl : stk = _ := h.st
 obtain rfl : sto = _ := h.s
 obtain rfl : bi = _ := h.bb
 obtain rfl : fi = _ := h.h
 obtain rfl : ne = _ := h.n
 obtain rfl : fr = _ := h.fr
 refine ⟨h.sl, h.ok, sol, hc.hh, fun x hx => ?_, hc.n1, hc.n2, hc.f1, hc.f2, fun q hq => ?_, fun q hq => ?_, fun q hq => ?_, fun x hx => ?_⟩
 obtain ⟨r, a1, a2, a3, a4⟩ := hc.hp x hx
 refine ⟨r, a1, a2, a3, fun i hi => ?_⟩
 obtain ⟨a, ha⟩ := a4 i hi
 exact ⟨_, jq.2 ⟨_, ha, rfl⟩⟩
 obtain ⟨q', hq', rfl⟩ := jq.1 hq
 exact hc.id q' hq'
 obtain ⟨q', hq', rfl⟩ := jq.1 hq
 show yq _ q'.2.n ((apL bi q'.2.ts).length : Int)
 rw [qsx]
 exact hc.dc q' hq'
 obtain ⟨q', hq', rfl⟩ := jq.1 hq
 exact qy1 sol (hc.fr q' hq')
 rcases jj.1 hx with hx | hx
 obtain ⟨y, hy, rfl⟩ := jq.1 hx
 have hfy := hc.f y (by rw [hs]; exact jo _ hy)
 unfold apF
 by_cases h0 : y.fd = 0
 rw [if_pos h0]
 obtain ⟨a1, a2, a3, a4, a5⟩ := hfy.1 h0
 refine ⟨fun _ => ⟨a1, h.r y hy h0, a3, fun e => ?_, qy1 sol a5⟩, fun e => absurd h0 e⟩
 show yq _ y.fk.n ((apL bi y.fk.ts).length : Int)
 rw [qsx]
 exact a4 e
 rw [if_neg h0]
 exact ⟨fun e => absurd e h0, hfy.2⟩
 obtain ⟨i, hi, rfl⟩ := jq.1 hx
 obtain ⟨a, ha⟩ := h.id i (vN.1 hi)
 have h1 := hc.st.p _ ha
 have h2 := hc.id _ ha
 dsimp only at h1 h2
 exact ⟨fun e => by have e : i = 0 := e; omega, fun _ => ⟨h1, h2, rfl, vl _, by show (-1 : Int) ≤ _; omega⟩⟩
theorem qAE {fuel : Nat} (hf : 1500000000 < fuel) {p : qc} (hp : zW p) (hrr : ∀ r ∈ p.fc, zbd p.fH r) {c : qd} (hc : zbj p c) (ok : yp p c) {pre : List qn} {f : qn} (hs : c.fb = pre ++ [f]) {e : qw} {t : qd} {r : qk} {env : En} (hr : zh p.fc e.fJ = some r) (ee : q7 fuel p c.fj c.fu [] c.fC e.fJ e.fD = some (env, true)) (he : zag c.fj r e.fD env) (h : zac fuel p c pre e r env t) : zbj p t := by
 obtain ⟨q, eq, hq⟩ := quq fuel hf hp hc.st hc.hh hc.hp c.fz e.fJ r hr e.fD env he
 obtain rfl := Option.some.inj (eq.symm.trans h.eq)
 obtain ⟨v1, v2, v3⟩ := hq rfl
 obtain ⟨x, ex, hx⟩ := qBD fuel hf hp ok.sw ok.bw c.fC e.fJ r hr e.fD
 obtain rfl := Option.some.inj (ex.symm.trans ee)
 have from_ : zbp c.fj env := hx rfl
 have rr := hrr r (qdB hr)
 have n0 := rr.n
 have n1 := rr.m
 have f1 := hc.f1
 have f2 := hc.f2
 rw [qgI oa] at v1
 have hw : wr (c.fz + r.fL) = c.fz + r.fL := qgI oa
 obtain ⟨stk, sto, bi, fi, ne, fr, fl⟩ := t
 have hfr : fr = c.fz + r.fL := h.fr.trans hw
 subst hfr
 obtain rfl : stk = _ := h.st
 obtain rfl : sto = _ := h.s
 obtain rfl : bi = _ := h.bb
 obtain rfl : ne = _ := h.n
 refine ⟨h.sl, qCK _ hc.st, hc.bd.mono fun x hx => by dsimp only; omega, v2, v3, hc.n1, hc.n2, by dsimp only; omega, v1, fun q hq => hc.id q (qo2 _ _ q hq), fun q hq => hc.dc q (qo2 _ _ q hq), fun q hq x hx => ?_, fun x hx => ?_⟩
 have := hc.fr q (qo2 _ _ q hq) x hx
 exact ⟨by dsimp only; omega, this.2⟩
 rcases jj.1 hx with hx | hx
 have : x ∈ c.fb := by
  split at hx
  rw [hs]
  exact jo _ hx
  exact hx
 exact (hc.f x this).more (vl _) (by dsimp only; omega)
 obtain ⟨g, hg, rfl⟩ := jq.1 hx
 obtain ⟨g', hg', rfl⟩ := jq.1 (vN.1 hg)
 refine ⟨fun _ => ⟨rfl, h.g g' hg', rr.o g' hg', fun e => ?_, fun y hy => ?_⟩, fun e => absurd rfl e⟩
 show yq _ g'.n ((inL _ g'.ts).length : Int)
 rw [qyZ]
 exact rr.d g' hg' e
 obtain ⟨v, hv, hy⟩ := que _ _ y hy
 have hvb := rr.v g' hg' v hv
 unfold ef at hy
 cases hm : zx env v with
 | some u =>
  rw [hm] at hy
  obtain ⟨q, hq, k⟩ := from_ v u hm
  have := hc.fr q hq y (k y hy)
  exact ⟨by dsimp only; omega, this.2⟩
 | none =>
  rw [hm] at hy
  have hy : y ∈ zP (T.mk 1 (if (qb9 c.fz v) = some true then v else wr (c.fz + v)) ⟨#[]⟩ []) := hy
  rw [qyJ oa oa hvb.1 oa, if_neg og, qgI oa, qlS rfl] at hy
  have hy : y = c.fz + v := ji.1 hy
  refine ⟨by dsimp only; omega, ?_⟩
  cases hb : zx c.fu y with
  | none => rfl
  | some u =>
   have h1 := (hc.bd.2 _ (qnB hb)).1
   dsimp only at h1
   omega
theorem qyb {fuel : Nat} (hf : 1500000000 < fuel) {p : qc} (hp : zW p) (hrr : ∀ r ∈ p.fc, zbd p.fH r) {c : qd} (hc : zbj p c) (ok : yp p c) {pre : List qn} {f : qn} (hs : c.fb = pre ++ [f]) {e : qw} {t : qd} (h : zbi fuel p c pre f e t) : t.fF = true ∨ zbj p t := by
 have hsl := hc.sl
 have hpl : c.fb.length = pre.length + 1 := by rw [hs, jb, jl]
 have hpf : ∀ x ∈ pre, zbV p c.fA c.fz c.fu x := fun x hx => hc.f x (by rw [hs]; exact jo _ hx)
 have hff := hc.f f (by rw [hs]; simp)
 have hal := qoK p.fc 0 hp.r
 have hprl := hp.l
 have snoc : ∀ g : qn, zbV p c.fA c.fz c.fu g → zbj p { c with fb := pre ++ [g] } := fun g hg => hc.stk (by rw [jb, jl]; omega) fun x hx => by
  rcases jj.1 hx with hx | hx
  exact hpf x hx
  rw [ji.1 hx]
  exact hg
 cases h with
 | fail _ h => exact .inl (by rw [h])
 | solve b ids _ h0 hop h => exact .inr (qwJ hf hc hs h0 hop h)
 | app a o r hd env _ _ _ _ h5 h6 _ h8 h9 h => exact .inr (qAE hf hp hrr hc ok hs (by rw [h6]; exact h5.1) h8 h9 h)
 | drop _ h =>
  subst h
  exact .inr (hc.stk oa hpf)
 | act _ h0 hop hn hr hst hlt h =>
  subst h
  obtain ⟨a1, a2, a3, a4, a5⟩ := hff.1 h0
  have n1 := hc.n1
  have n2 := hc.n2
  have hw : wr (c.fA + 1) = c.fA + 1 := qgI oa
  refine .inr ⟨by rw [jb, jl]; omega, ⟨fun q hq => ?_, fun q hq => ?_, ?_, by rw [jb, jl]; omega⟩, hc.bd, hc.hh, fun x hx => ?_, by dsimp only; omega, by dsimp only; omega, hc.f1, hc.f2, fun q hq => ?_, fun q hq => ?_, fun q hq => ?_, fun x hx => ?_⟩
  rcases jj.1 hq with hq | hq
  exact hc.st.a q hq
  rw [ji.1 hq]
  exact hr
  rcases jj.1 hq with hq | hq
  exact hc.st.p q hq
  rw [ji.1 hq]
  exact n1
  refine jZ.2 ⟨hc.st.s, vB .., fun a ha b hb => ?_⟩
  rw [ji.1 hb]
  exact hc.id a ha
  obtain ⟨r, b1, b2, b3, b4⟩ := hc.hp x hx
  exact ⟨r, b1, b2, b3, fun i hi => by
   obtain ⟨a, ha⟩ := b4 i hi
   exact ⟨a, jo _ ha⟩⟩
  dsimp only
  rcases jj.1 hq with hq | hq
  have := hc.id q hq
  omega
  rw [ji.1 hq]
  dsimp only
  omega
  rcases jj.1 hq with hq | hq
  exact hc.dc q hq
  rw [ji.1 hq]
  exact a4 hop
  rcases jj.1 hq with hq | hq
  exact hc.fr q hq
  rw [ji.1 hq]
  exact a5
  rcases jj.1 hx with hx | hx
  exact (hpf x hx).more (by dsimp only; omega) (vl _)
  rw [ji.1 hx]
  exact ⟨fun e => by have e : c.fA = 0 := e; omega, fun _ => ⟨n1, by show c.fA < wr (c.fA + 1); omega, rfl, by show (-1 : Int) ≤ 0; omega, by show (0 : Int) ≤ _; omega⟩⟩
 | re _ h0 h =>
  subst h
  obtain ⟨a1, a2, a3, a4, a5⟩ := hff.2 h0
  exact .inr (snoc _ ⟨fun e => absurd e h0, fun _ => ⟨a1, a2, a3, by show (-1 : Int) ≤ 0; omega, by show (0 : Int) ≤ _; omega⟩⟩)
 | dflt a o r hd ch _ h0 _ h3 h4 _ _ _ h =>
  subst h
  obtain ⟨a1, a2, a3, a4, a5⟩ := hff.2 h0
  have h6 := (qhd h4).2.1
  have h7 := vm (yK p a.n (a.ts.length : Int)) (zab p.fc 0)
  have hw : wr (f.fq + 1) = f.fq + 1 := qgI oa
  exact .inr (snoc _ ⟨fun e => absurd e h0, fun _ => ⟨a1, a2, a3, by show (-1 : Int) ≤ wr (f.fq + 1); omega, by show wr (f.fq + 1) ≤ _; omega⟩⟩)
theorem qsl {i : Int} {a b : At} : ∀ {l : List (Int × At)}, (l.Pairwise fun q r => q.1 < r.1) → (i, a) ∈ l → (i, b) ∈ l → a = b
 | q :: l, h, ha, hb => by
  obtain ⟨h1, h2⟩ := vn.1 h
  rcases jh.1 ha with e1 | ha
  rcases jh.1 hb with e2 | hb
  rw [← e1] at e2
  exact (Prod.mk.inj e2).2.symm
  have := h1 _ hb
  rw [← e1] at this
  dsimp only at this
  omega
  rcases jh.1 hb with e2 | hb
  have := h1 _ ha
  rw [← e2] at this
  dsimp only at this
  omega
  exact qsl h2 ha hb
noncomputable def zbv (p : qc) (a : At) : List qt := (zab p.fc 0).filter (yK p a.n (a.ts.length : Int))
theorem qCn {p : qc} {a b : At} (h1 : a.n = b.n) (h2 : a.ts.length = b.ts.length) : zbv p a = zbv p b := by unfold zbv; rw [h1, h2]
def linV (ts : List T) : Prop := (∀ t ∈ ts, t.k = 1) ∧ (ts.map T.i).Nodup
def Cert (p : qc) (o : qt) : Prop := ∃ r h, zh p.fc o.fy = some r ∧ r.fg = [] ∧ r.ft = [h] ∧ r.fx = [] ∧ linV h.ts
theorem qy2 : ∀ (ps ts : List T) (f : Int → Option T), ps.length = ts.length → linV ps → (∀ t ∈ ps, f t.i = none) → ∃ g, mtc f (zo ps) (vL ps ts) = some g
 | [], [], f, _, _, _ => by
  rw [vL, zo]
  exact ⟨f, by unfold mtc; rw [ja, List.zip_nil_left, rn]⟩
 | [], _ :: _, _, h, _, _ => by cases h
 | _ :: _, [], _, h, _, _ => by cases h
 | p :: ps, t :: ts, f, hl, ⟨h1, h2⟩, hf => by
  have hk := h1 p (jc ..)
  rw [jr, jQ] at h2
  rw [vL, zo, qyf fun l hl => qs5 p t l hl, qt3 hk, qlS hk]
  have e : mtc f [p.i] (some [t]) = some (upd f p.i t) := by
   unfold mtc
   rw [ja]
   show rn f [(p.i, t)] = _
   rw [qmR (hf p (jc ..)), rn]
  rw [e, ja]
  refine qy2 ps ts _ (by simpa using hl) ⟨fun u hu => h1 u (je _ hu), h2.2⟩ fun u hu => ?_
  unfold upd
  rw [if_neg fun e => h2.1 (by rw [← e]; exact jq.2 ⟨u, hu, rfl⟩)]
  exact hf u (je _ hu)
theorem qz0 (fuel : Nat) (hf : 1500000000 < fuel) {p : qc} (hp : zW p) {l : List (Int × At)} (hst : za7 l) (b : En) (h : List qi) (rule : Int) (r : qk) (hr : zh p.fc rule = some r) (hd : At) (hK : r.fg = []) (hR : r.ft = [hd]) (hG : r.fx = []) (hl : linV hd.ts) (id : Int) (a : At) (ha : (id, a) ∈ l) (hn : hd.n = a.n) (hlen : hd.ts.length = a.ts.length) : Yl (q7 fuel p l b [] h rule [id]) fun e => e.2 = true := by
 have hrule := hp.r r (qdB hr)
 have hh := qeC (hrule.a hd (by rw [hK, hR]; simp))
 have haw := (qeC (hst.a _ ha)).2.1
 have hocc := qmr hd.ts
 unfold q7
 rw [hr, ja, qhQ (by rw [hK, hR]; simp), ja, hK, hR, jp]
 rw [show ((([id] : List Int).length : Int) != (([hd] : List At).length : Int)) = false by rfl, cond_false, qap]
 rw [show (((0 : Nat) : Int) - 0 : Int).toNat = 0 by rfl, qbI]
 rw [show zh [id] ((0 : Nat) : Int) = some id by rfl, ja]
 refine .bind (qoI id l) fun x hx => ?_
 have hx2 : x.2 = true := by
  cases e : x.2 with
  | true => rfl
  | false => exact absurd ha (hx.2 e a)
 have hxa : x.1 = a := qsl hst.s (hx.1 hx2) ha
 rw [hx2, jy, cond_false, hxa]
 obtain ⟨env', ok, e, hres⟩ := quQ (W := 200) oa fuel hd a [] oa oa haw (fun q hq => by cases hq) oe
 rw [e, ja]
 have hok : ok = true := by
  rcases hres with ⟨_, h6⟩ | ⟨h5, _⟩
  rw [if_pos hn] at h6
  obtain ⟨g, hg⟩ := qy2 hd.ts a.ts (zx []) hlen hl fun t _ => rfl
  rw [hg] at h6
  cases h6
  exact h5
 subst hok
 dsimp only
 rw [jy, cond_false, qap, hG, qaP, qO, ja, hR]
 exact .pure rfl
theorem quF (fuel : Nat) (hf : 1500000000 < fuel) {p : qc} {c : qd} (ok : yp p c) {o : qt} (hc : Cert p o) (id : Int) (a : At) (ha : (id, a) ∈ c.fj) (hi : yK p a.n (a.ts.length : Int) o = true) {r' : qk} {h' : At} (ho : zar p o r' h') : zh [id] o.fG = some id ∧ o.fI = false ∧ Yl (chs fuel p c o.fy) fun ch => [id] ∈ ch := by
 obtain ⟨r, h, hr, hK, hR, hG, hl⟩ := hc
 obtain ⟨a1, a2, a3⟩ := ho
 obtain rfl := Option.some.inj (hr.symm.trans a1)
 rw [hK, hR, jp] at a2
 have hb := qhd a2
 have h0 : o.fG = 0 := by
  have := hb.2.1
  simp only [jl] at this
  omega
 obtain ⟨hn, hlen⟩ := qAq ⟨hr, by rw [hK, hR, jp]; exact a2, a3⟩ hi
 have e' : h' = h := by
  rw [h0] at a2
  exact (Option.some.inj a2).symm
 subst e'
 refine ⟨by rw [h0]; rfl, by rw [a3, h0, hK]; rfl, ?_⟩
 have hsn := ok.sd.st.n
 obtain ⟨env, eE, hE⟩ := qz0 fuel hf ok.pr ok.sd.st c.fu c.fC o.fy r hr h' hK hR hG hl id a ha hn oa
 unfold chs qcK
 rw [hr, ja, qhQ (by rw [hK, hR]; simp), ja, hK, hR, jp, q0]
 obtain ⟨more, e, b1, _, b3⟩ := qBK (fun longer_24 => q0 (fun lists_6 => (qaM (fun out_12 => some (out_12)) c.fu fuel c.fC [] c.fj p o.fy lists_6 [])) c.fj [] longer_24) c.fj h' 0 oa [[]] [] (fun q hq => by rw [ji.1 hq]; rfl) oe
 rw [e, jp, q0]
 simp only [jl, jU] at b1
 obtain ⟨more2, e2, _, _, c3⟩ := qzP fuel hf ok.pr ok.sw ok.bw [] (fun g h => by cases h) c.fC o.fy r hr (fun out_12 => some (out_12)) more [] oe
 rw [e2, jp]
 have hin : [id] ∈ more := b3 [] (ji.2 rfl) (id, a) ha hn.symm (by dsimp only; omega)
 obtain ⟨env1, okb⟩ := env
 have hE : okb = true := hE
 subst hE
 exact .pure (c3 _ hin env1 eE)
def NevI (p : qc) (c : qd) : Prop := ∀ i a, (i, a) ∈ c.fj → ∀ (m : Nat) o, (zbv p a)[m]? = some o → Cert p o → ∃ g ∈ c.fb, g.fd = i ∧ g.fq ≤ (m : Int)
theorem qx4 {fuel : Nat} (hf : 1500000000 < fuel) {p : qc} {c : qd} (hi : NevI p c) (ok : yp p c) {pre : List qn} {f : qn} (hs : c.fb = pre ++ [f]) {e : qw} {t : qd} (h : zbi fuel p c pre f e t) : t.fF = true ∨ NevI p t := by
 have pos : ∀ i a, (i, a) ∈ c.fj → 1 ≤ i := fun i a h => ok.sd.st.p _ h
 -- a frame that is not the top one
 have low : ∀ i a, (i, a) ∈ c.fj → ∀ (m : Nat) o, (zbv p a)[m]? = some o → Cert p o → (f.fd = i → (m : Int) < f.fq) → ∃ g ∈ pre, g.fd = i ∧ g.fq ≤ (m : Int) := fun i a ha m o ho hc hne => by
  obtain ⟨g, hg, h1, h2⟩ := hi i a ha m o ho hc
  rw [hs] at hg
  rcases jj.1 hg with hg | hg
  exact ⟨g, hg, h1, h2⟩
  rw [ji.1 hg] at h1 h2
  have := hne h1
  omega
 cases h with
 | fail _ h => exact .inl (by rw [h])
 | solve b ids _ h0 _ h =>
  refine .inr fun i a ha m o ho hc => ?_
  rw [h.s] at ha
  obtain ⟨q, hq, e⟩ := jq.1 ha
  obtain ⟨rfl, rfl⟩ := Prod.mk.inj e
  have ho : (zbv p ⟨q.2.n, apL b q.2.ts⟩)[m]? = some o := ho
  rw [show zbv p ⟨q.2.n, apL b q.2.ts⟩ = zbv p q.2 from qCn rfl (qsx b q.2.ts)] at ho
  have hp1 := pos q.1 q.2 hq
  obtain ⟨g, hg, h1, h2⟩ := low q.1 q.2 hq m o ho hc fun e => by omega
  refine ⟨g, ?_, h1, h2⟩
  rw [h.st]
  refine jo _ (jq.2 ⟨g, hg, ?_⟩)
  unfold apF
  rw [if_neg oa]
 | app a' o' r hd env h1 h2 h3 h4 h5 h6 h7 h8 h9 h =>
  refine .inr fun i a ha m o ho hc => ?_
  rw [h.s] at ha
  have ha0 := qo2 _ _ _ ha
  rw [h.st]
  rcases h1 with ⟨k4, hk⟩ | ⟨k5, _⟩
  rw [if_pos k4]
  have hin : f.fd ∈ e.fD.drop r.fg.length := by
   have hb := qhd h7
   have h53 := h5.2.2
   rw [hk] at h53
   have hge : ¬ o'.fG < (r.fg.length : Int) := of_decide_eq_false h53.symm
   obtain ⟨n0, n1⟩ := qb3 h7
   refine List.mem_of_getElem? (i := o'.fG.toNat - r.fg.length) ?_
   rw [List.getElem?_drop, show r.fg.length + (o'.fG.toNat - r.fg.length) = o'.fG.toNat by omega]
   exact n1
  obtain ⟨g, hg, h10, h11⟩ := low i a ha0 m o ho hc fun e => absurd ha (by rw [← e]; exact qA7 _ _ _ hin a)
  exact ⟨g, jo _ hg, h10, h11⟩
  rw [if_neg oa]
  obtain ⟨g, hg, h10, h11⟩ := hi i a ha0 m o ho hc
  exact ⟨g, jo _ hg, h10, h11⟩
 | drop _ h h0 h1 =>
  subst h
  refine .inr fun i a ha m o ho hc => low i a ha m o ho hc fun e => ?_
  rcases h1 with h1 | ⟨b, hb, hle⟩
  exact absurd ha (by rw [← e]; exact h1 a)
  rw [e] at hb
  obtain rfl := qsl ok.sd.st.s hb ha
  have := (ju.1 ho).1
  unfold zbv at this
  omega
 | act _ h0 _ _ _ _ _ h =>
  subst h
  refine .inr fun i a ha m o ho hc => ?_
  rcases jj.1 ha with ha | ha
  have := pos i a ha
  obtain ⟨g, hg, h1, h2⟩ := low i a ha m o ho hc fun e => by omega
  exact ⟨g, jo _ hg, h1, h2⟩
  obtain ⟨rfl, _⟩ := Prod.mk.inj (ji.1 ha)
  exact ⟨_, jt _ (ji.2 rfl), rfl, by show (0 : Int) ≤ _; omega⟩
 | re _ h0 h =>
  subst h
  refine .inr fun i a ha m o ho hc => ?_
  by_cases e : f.fd = i
  exact ⟨_, jt _ (ji.2 rfl), e, by show (0 : Int) ≤ _; omega⟩
  obtain ⟨g, hg, h1, h2⟩ := low i a ha m o ho hc fun k => absurd k e
  exact ⟨g, jo _ hg, h1, h2⟩
 | dflt a' o' r hd ch _ h0 h2 h3 h4 h5 h6 h7 h =>
  subst h
  refine .inr fun i a ha m o ho hc => ?_
  by_cases e : f.fd = i
  rw [e] at h2
  obtain rfl := qsl ok.sd.st.s h2 ha
  have hb := qhd h4
  have hmm := jR.1 hb.2.2
  by_cases hlt : f.fq < (m : Int)
  have hw : wr (f.fq + 1) = f.fq + 1 := qgI (by
   have := hb.2.1
   have := (ju.1 ho).1
   have := vm (yK p a'.n (a'.ts.length : Int)) (zab p.fc 0)
   have := qoK p.fc 0 ok.pr.r
   have := ok.pr.l
   omega)
  exact ⟨_, jt _ (ji.2 rfl), e, by show wr (f.fq + 1) ≤ _; omega⟩
  by_cases heq : f.fq = (m : Int)
  have : o' = o := by
   rw [heq, qdl] at h4
   exact Option.some.inj (h4.symm.trans ho)
  subst this
  obtain ⟨k1, _, ch', ek, hk⟩ := quF fuel hf ok hc i a' ha hmm.2 h5
  obtain rfl := Option.some.inj (ek.symm.trans h6)
  exact absurd (by rw [e]; exact k1) (h7 _ hk)
  obtain ⟨g, hg, h10, h11⟩ := low i a' ha m o ho hc fun _ => by omega
  exact ⟨g, jo _ hg, h10, h11⟩
  obtain ⟨g, hg, h10, h11⟩ := low i a ha m o ho hc fun k => absurd k e
  exact ⟨g, jo _ hg, h10, h11⟩
def zbD {α : Type} (x : Option α) (Q : α → Prop) : Prop := ∃ a, x = some a ∧ Q a
theorem zbD.pure {α : Type} {a : α} {Q : α → Prop} (h : Q a) : zbD (some a) Q := ⟨a, rfl, h⟩
theorem zbD.bind {α β : Type} {x : Option α} {R : α → Prop} {f : α → Option β} {Q : β → Prop} (h : zbD x R) (hf : ∀ a, R a → zbD (f a) Q) : zbD (x.bind f) Q := by
 obtain ⟨a, rfl, ha⟩ := h
 exact hf a ha
theorem zbD.cond {α : Type} {b : Bool} {x y : Option α} {Q : α → Prop} (h1 : b = true → zbD x Q) (h2 : b = false → zbD y Q) : zbD (bif b then x else y) Q := by
 cases b with
 | true => exact h1 rfl
 | false => exact h2 rfl
/-! ### weights -/
def wA : List At → Nat
 | [] => 0
 | a :: l => 1 + wtL a.ts + wA l
def wG : List Gl → Nat
 | [] => 0
 | a :: l => 1 + wtL a.ts + wG l
structure Bd (r : qk) : Prop where
 a : wA r.fg ≤ 3000
 b : wA r.ft ≤ 3000
 c : wG r.fx ≤ 3000
 d : wG r.fp ≤ 3000
theorem qyx {a : At} : ∀ {l : List At}, a ∈ l → wtL a.ts ≤ wA l
 | x :: l, h => by
  simp only [wA]
  rcases jh.1 h with rfl | h
  omega
  have := qyx h; omega
def hd (r : qk) : List At := r.fg ++ r.ft
theorem qBh (l : List At) : l.length ≤ wA l := by
 induction l with
 | nil => simp [wA]
 | cons a l ih => simp only [wA, jg]; omega
theorem qDa (l : List Gl) : l.length ≤ wG l := by
 induction l with
 | nil => simp [wG]
 | cons a l ih => simp only [wG, jg]; omega
theorem Bd.len {r : qk} (h : Bd r) : r.fg.length ≤ 3000 ∧ r.ft.length ≤ 3000 := ⟨j5 (qBh _) h.a, j5 (qBh _) h.b⟩
theorem Bd.hd_len {r : qk} (h : Bd r) : (hd r).length ≤ 6000 := by have := h.len; simp only [hd, jb]; omega
theorem Bd.hd_wt {r : qk} (h : Bd r) {a : At} (ha : a ∈ hd r) : wtL a.ts ≤ 3000 := by
 rcases jj.1 ha with ha | ha
 exact j5 (qyx ha) h.a
 exact j5 (qyx ha) h.b
theorem qrK {r : qk} (h : Bd r) : qfU r = some (hd r) := by
 have hl := h.len
 rw [qfU, qiA, ja, qgI oa]
 rw [show zap 40 ((r.fg.length : Int) + (r.ft.length : Int)) = some _ from if_pos ⟨by omega, by omega, by omega⟩, ja]
 rw [qjj oe oe, ja, qjj oe oe, ja]
 rfl
theorem quX {r : qk} (h : Bd r) : qbS r = some (hd r) := by
 have hl := h.len
 rw [qbS]
 rw [qjj oe oe, ja, qjj oe oe, ja]
 rfl
/-! ### the occurrences -/
def dn (i : Nat) (r : qk) (hs : List At) : Nat → List (qt × At)
 | 0 => []
 | m + 1 => (match hs[m]? with
  | some h => [(⟨(i : Int), (m : Int), decide ((m : Int) < (r.fg.length : Int))⟩, h)]
  | none => []) ++ dn i r hs m
def trF : Nat → List qk → List (qt × At)
 | _, [] => []
 | i, r :: rs => dn i r (hd r) (hd r).length ++ trF (i + 1) rs
theorem qvV (i : Nat) (r : qk) (hs : List At) : ∀ m, (dn i r hs m).length ≤ m
 | 0 => by simp [dn]
 | m + 1 => by
  have := qvV i r hs m
  simp only [dn, jb]
  split <;> simp <;> omega
theorem qxp : ∀ (l : List qk) (i : Nat), (∀ r ∈ l, Bd r) → (trF i l).length ≤ 6000 * l.length
 | [], i, _ => by simp [trF]
 | r :: l, i, h => by
  have h1 := qxp l (i + 1) fun x hx => h x (je _ hx)
  have h2 := qvV i r (hd r) (hd r).length
  have h3 := (h r (jc ..)).hd_len
  simp only [trF, jb, jg]
  omega
theorem qtd (k : List (qt × At) → Option (List (qt × At))) (i : Nat) (q : qk) (hs : List At) : ∀ (m : Nat) (tr : List (qt × At)), m ≤ hs.length → tr.length + m ≤ 100000000 → yQ k i q hs m tr = k (tr ++ dn i q hs m)
 | 0, tr, _, _ => by simp [yQ, dn]
 | m + 1, tr, hm, hl => by
  have hlt : m < hs.length := hm
  rw [yQ, qdl, js hlt, ja, decide_eq_true oa, cond_true, qtd k i q hs m _ oa oe]
  simp [dn, js hlt]
theorem qtj (k : List (qt × At) → Option (List (qt × At))) : ∀ (l : List qk) (tr : List (qt × At)) (i : Nat), (∀ r ∈ l, Bd r) → tr.length + 6000 * l.length ≤ 100000000 → yW k l tr i = k (tr ++ trF i l)
 | [], tr, i, _, _ => by simp [yW, trF]
 | r :: l, tr, i, h, hl => by
  have hb := h r (jc ..)
  have hl2 := hb.hd_len
  have h2 := qvV i r (hd r) (hd r).length
  simp only [jg] at hl
  rw [yW, qrK hb, ja, qgI oa]
  rw [show yS (((hd r).length : Int) - 1) = some (hd r).length by rw [yS, if_pos oa]; congr 1; omega, ja]
  rw [qtd _ i r (hd r) _ tr (jn _) oa, qtj k l _ (i + 1) (fun x hx => h x (je _ hx)) (by simp only [jb]; omega)]
  simp [trF]
structure BdP (p : qc) : Prop where
 n : p.fc.length ≤ 20
 r : ∀ r ∈ p.fc, Bd r
theorem BdP.tr {p : qc} (h : BdP p) : (trF 0 p.fc).length ≤ 120000 := j5 (qxp _ _ h.r) (by have := h.n; omega)
theorem qBW {p : qc} (h : BdP p) : zbC p = some (trF 0 p.fc) := by
 have := h.n
 rw [zbC, qtj _ _ _ _ h.r oe]
 rfl
noncomputable def ocF (p : qc) (name : ByteArray) (arity : Int) : List qt := ((trF 0 p.fc).filter (zan name arity)).map (·.1)
theorem qB7 {p : qc} (h : BdP p) (name : ByteArray) (arity : Int) : (ocF p name arity).length ≤ 120000 := by
 have := h.tr
 unfold ocF
 rw [jd]
 exact j5 (vm _ _) this
theorem qAF {p : qc} (h : BdP p) (name : ByteArray) (arity : Int) : qpa p name arity = some (ocF p name arity) := by
 have := h.tr
 rw [qpa, qBW h, ja, decide_eq_true oa]
 rfl
theorem qv6 (k : List qt → Option (List qt)) (i : Nat) (q : qk) (hs : List At) : ∀ (m : Nat) (out : List qt), m ≤ hs.length → out.length + m ≤ 100000000 → qa4 k i q m out = k (out ++ (dn i q hs m).map (·.1))
 | 0, out, _, _ => by simp [qa4, dn]
 | m + 1, out, hm, hl => by
  have hlt : m < hs.length := hm
  rw [qa4, qjj oe oe, ja, qv6 k i q hs m _ oa oe]
  simp [dn, js hlt]
theorem qwf (k : List qt → Option (List qt)) : ∀ (l : List qk) (out : List qt) (i : Nat), (∀ r ∈ l, Bd r) → out.length + 6000 * l.length ≤ 100000000 → qa7 k l out i = k (out ++ (trF i l).map (·.1))
 | [], out, i, _, _ => by simp [qa7, trF]
 | r :: l, out, i, h, hl => by
  have hb := h r (jc ..)
  have hl2 := hb.len
  have hl3 : (hd r).length = r.fg.length + r.ft.length := by simp [hd]
  have h2 := qvV i r (hd r) (hd r).length
  simp only [jg] at hl
  rw [qa7, qgI (n := (r.fg.length : Int) + (r.ft.length : Int)) oa, qgI oa]
  rw [show yS ((r.fg.length : Int) + (r.ft.length : Int) - 1) = some (hd r).length by rw [yS, if_pos oa]; congr 1; omega, ja]
  rw [qv6 _ i r (hd r) _ out (jn _) oa, qwf k l _ (i + 1) (fun x hx => h x (je _ hx)) (by simp only [jb, jd]; omega)]
  simp [trF]
def allF (p : qc) : List qt := (trF 0 p.fc).map (·.1)
theorem qAb {p : qc} (h : BdP p) : qc2 p = some (allF p) := by
 have := h.n
 rw [qc2, qwf _ _ _ _ h.r oe]
 rfl
theorem qBi {i : Nat} {r : qk} {hs : List At} {x : qt × At} : ∀ {m : Nat}, x ∈ dn i r hs m → ∃ j : Nat, x.1 = ⟨(i : Int), (j : Int), decide ((j : Int) < (r.fg.length : Int))⟩ ∧ hs[j]? = some x.2
 | 0, h => by cases h
 | m + 1, h => by
  rw [dn] at h
  rcases jj.1 h with h | h
  cases hm : hs[m]? with
  | none => rw [hm] at h; cases h
  | some y =>
   rw [hm] at h
   rw [ji.1 h]
   exact ⟨m, rfl, hm⟩
  exact qBi h
theorem qx6 {x : qt × At} : ∀ {l : List qk} {i : Nat}, x ∈ trF i l → ∃ (n j : Nat) (r : qk), l[n]? = some r ∧ x.1 = ⟨((i + n : Nat) : Int), (j : Int), decide ((j : Int) < (r.fg.length : Int))⟩ ∧ (hd r)[j]? = some x.2
 | [], i, h => by cases h
 | r :: l, i, h => by
  rw [trF] at h
  rcases jj.1 h with h | h
  obtain ⟨j, h1, h2⟩ := qBi h
  exact ⟨0, j, r, rfl, h1, h2⟩
  obtain ⟨n, j, q, h1, h2, h3⟩ := qx6 h
  exact ⟨n + 1, j, q, by simpa using h1, by rw [h2]; congr 1; congr 1; omega, h3⟩
theorem qC5 {p : qc} {x : qt × At} (h : x ∈ trF 0 p.fc) : ∃ r, zh p.fc x.1.fy = some r ∧ r ∈ p.fc ∧ zh (hd r) x.1.fG = some x.2 := by
 obtain ⟨n, j, r, h1, h2, h3⟩ := qx6 h
 refine ⟨r, ?_, List.mem_of_getElem? h1, ?_⟩
 rw [h2]
 show zh p.fc ((0 + n : Nat) : Int) = some r
 rw [jx, qdl]; exact h1
 rw [h2]
 show zh (hd r) (j : Int) = some x.2
 rw [qdl]; exact h3
theorem qrD {p : qc} (h : BdP p) (k : List qt → Option (List qt)) (name : ByteArray) (arity : Int) : ∀ (tr : List (qt × At)) (out : List qt), (∀ x ∈ tr, x ∈ trF 0 p.fc) → out.length + tr.length ≤ 100000000 →
 qaB k arity name p (tr.map (·.1)) out = k (out ++ (tr.filter (zan name arity)).map (·.1))
 | [], out, _, _ => by simp [qaB]
 | x :: tr, out, hx, hl => by
  obtain ⟨r, h1, h2, h3⟩ := qC5 (hx x (jc ..))
  simp only [jg] at hl
  have ih := fun out hl => qrD h k name arity tr out (fun y hy => hx y (je _ hy)) hl
  rw [jr, qaB, h1, ja, quX (h.r r h2), ja, h3, ja]
  cases hn : x.2.n.toList == name.toList with
  | false =>
   rw [cond_false, ih out oa]
   simp [zan, hn]
  | true =>
   rw [cond_true]
   cases ha : (x.2.ts.length : Int) == arity with
   | false =>
    rw [cond_false, ih out oa]
    simp [zan, ha]
   | true =>
    rw [cond_true, qjj oe oe, ja, ih _ oe]
    have : zan name arity x = true := by unfold zan; rw [hn, ha]; rfl
    simp [this]
theorem qzT {p : qc} (h : BdP p) (name : ByteArray) (arity : Int) : qdY p name arity = some (ocF p name arity) := by
 have := h.tr
 rw [qdY, qAb h, ja, allF, qrD h _ name arity _ [] (fun _ hx => hx) oe]
 rfl
def ruF (p : qc) (o : qt) : qk := (zh p.fc o.fy).getD ⟨⟨#[]⟩, [], [], [], [], 0⟩
theorem qBY {p : qc} {name : ByteArray} {arity : Int} {o : qt} (h : o ∈ ocF p name arity) : zh p.fc o.fy = some (ruF p o) ∧ ruF p o ∈ p.fc := by
 obtain ⟨x, hx, rfl⟩ := jq.1 h
 obtain ⟨r, h1, h2, _⟩ := qC5 (jR.1 hx).1
 rw [ruF, h1]
 exact ⟨rfl, h2⟩
theorem qyG (k : List qA → Option (List qA)) (p : qc) : ∀ (l : List qt) (out : List qA), (∀ o ∈ l, zh p.fc o.fy = some (ruF p o)) → out.length + l.length ≤ 1000000 →
 qeG k p l out = k (out ++ l.map fun o => ⟨o, ruF p o⟩)
 | [], out, _, _ => by simp [qeG]
 | o :: l, out, h, hl => by
  simp only [jg] at hl
  rw [qeG, h o (jc ..), ja, qjj oe oe, ja, qyG k p l _ (fun x hx => h x (je _ hx)) oe]
  simp
noncomputable def sOcc (p : qc) (name : ByteArray) (arity : Int) : List qA := (ocF p name arity).map fun o => ⟨o, ruF p o⟩
theorem qDd {p : qc} (h : BdP p) (name : ByteArray) (arity : Int) : qhA p name arity = some (sOcc p name arity) := by
 have := qB7 h name arity
 rw [qhA, qAF h, ja, qyG _ p _ [] (fun o ho => (qBY ho).1) oe]
 rfl
/-! ### inert rules -/
noncomputable def zao : List Int → List Gl → Bool
 | _, [] => true
 | tk, g :: l => if zn g = false then false else if g.op = 1 then zao tk l else if g.op ≠ 4 then false else match g.ts with
  | [] => false
  | t :: _ => if t.k ≠ 1 then false else if t.i ∈ tk then false else zao (tk ++ [t.i]) l
theorem goal4 {g : Gl} (h : zn g = true) (h4 : g.op = 4) : ∃ t u, g.ts = [t, u] := by
 unfold zn at h
 rw [if_neg oa] at h
 simp only [jm, decide_eq_true_eq] at h
 have h2 := h.1.2
 rw [h4] at h2
 have hl : g.ts.length = 2 := by
  have : zR 4 = 2 := by decide
  omega
 match hts : g.ts, hl with
 | [t, u], _ => exact ⟨t, u, rfl⟩
def keys (m : List (Int × Unit)) : List Int := m.map (·.1)
theorem qnx : ∀ (m : List (Int × Unit)) (v : Int), (zx m v).isSome = decide (v ∈ keys m)
 | [], v => by simp [zx, keys]
 | q :: m, v => by
  have ih := qnx m v
  rw [zx]
  by_cases h : q.1 = v
  rw [if_pos h]; simp [keys, h]
  rw [if_neg h, ih]
  have h' : v ≠ q.1 := fun e => h e.symm
  exact decide_eq_decide.2 (by simp only [keys, jr, jh, h', false_or])
theorem qpv (m : List (Int × Unit)) (v x : Int) : x ∈ keys (zaw m v ()) ↔ x ∈ keys m ∨ x = v := by
 have h1 := qnx (zaw m v ()) x
 have h2 := qnx m x
 rw [qtT] at h1
 by_cases hx : v = x
 rw [if_pos hx] at h1
 have : x ∈ keys (zaw m v ()) := by simpa using h1.symm
 subst hx
 exact ⟨fun _ => .inr rfl, fun _ => this⟩
 rw [if_neg hx, h2] at h1
 have hx' : x ≠ v := fun e => hx e.symm
 simp only [hx', or_false]
 by_cases hk : x ∈ keys m
 rw [decide_eq_true hk] at h1
 exact ⟨fun _ => hk, fun _ => of_decide_eq_true h1.symm⟩
 rw [decide_eq_false hk] at h1
 exact ⟨fun h => absurd h (of_decide_eq_false h1.symm), fun h => absurd h hk⟩
theorem qx5 (v : Int) (m : List (Int × Unit)) (h : m.length ≤ 1000000000) : qcL v m = some (if v ∈ keys m then (false, m) else (true, zaw m v ())) := by
 rw [qcL, qnx]
 by_cases hv : v ∈ keys m
 rw [decide_eq_true hv, cond_true, if_pos hv]
 rw [decide_eq_false hv, cond_false, if_neg hv, show zbr m v () = some (zaw m v ()) from if_pos oa]
 rfl
theorem qrd : ∀ (l : List Gl) (m : List (Int × Unit)) (tk : List Int), wG l ≤ 3000 → m.length + l.length ≤ 100000000 → (∀ v, v ∈ keys m ↔ v ∈ tk) → qcN (some true) l m = some (zao tk l)
 | [], m, tk, _, _, _ => by rw [qcN, zao]
 | g :: l, m, tk, hw, hl, hk => by
  simp only [wG] at hw
  simp only [jg] at hl
  have ih := fun m tk hl hk => qrd l m tk oa hl hk
  rw [qcN, qgu g oa, ja, zao]
  cases hr : zn g with
  | false => simp
  | true =>
   simp only [jy, cond_false, Bool.true_eq_false, if_false]
   by_cases h1 : g.op = 1
   rw [if_pos h1, show (g.op == (1 : Int)) = true by simpa using h1, cond_true, ih m tk oa hk]
   rw [if_neg h1, show (g.op == (1 : Int)) = false by simpa using h1, cond_false]
   by_cases h4 : g.op = 4
   obtain ⟨t, u, hts⟩ := goal4 hr h4
   rw [if_neg (by simpa using h4), show (g.op != (4 : Int)) = false by simpa using h4, cond_false, hts]
   rw [show zh [t, u] 0 = some t from rfl, ja]
   simp only []
   by_cases ht : t.k = 1
   rw [if_neg (by simpa using ht), show (t.k != (1 : Int)) = false by simpa using ht, cond_false, qx5 _ _ oa, ja]
   by_cases hv : t.i ∈ tk
   rw [if_pos ((hk _).2 hv), if_pos hv]
   rfl
   rw [if_neg (fun h => hv ((hk _).1 h)), if_neg hv]
   have := qoD m t.i ()
   simp only [jy, cond_false]
   exact ih _ _ oa fun v => by rw [qpv, hk v]; simp
   rw [if_pos (by simpa using ht), show (t.k != (1 : Int)) = true by simpa using ht, cond_true]
   rw [if_pos (by simpa using h4), show (g.op != (4 : Int)) = true by simpa using h4, cond_true]
theorem qnU (k : List (Int × Unit) → Option Bool) : ∀ (vs : List Int) (m : List (Int × Unit)), m.length + vs.length ≤ 100000000 → ∃ m', qdI k vs m = k m' ∧ m'.length ≤ m.length + vs.length ∧ ∀ v, v ∈ keys m' ↔ v ∈ keys m ∨ v ∈ vs
 | [], m, _ => ⟨m, by rw [qdI], by simp, by simp⟩
 | x :: vs, m, h => by
  simp only [jg] at h
  rw [qdI, qx5 _ _ oa, ja]
  by_cases hx : x ∈ keys m
  rw [if_pos hx]
  obtain ⟨m', h1, h2, h3⟩ := qnU k vs m oa
  refine ⟨m', h1, by simp only [jg]; omega, fun v => ?_⟩
  rw [h3 v]
  constructor
  rintro (h | h)
  exact .inl h
  exact .inr (je _ h)
  rintro (h | h)
  exact .inl h
  rcases jh.1 h with rfl | h
  exact .inl hx
  exact .inr h
  rw [if_neg hx]
  have hm := qoD m x ()
  obtain ⟨m', h1, h2, h3⟩ := qnU k vs (zaw m x ()) oa
  refine ⟨m', h1, by simp only [jg]; omega, fun v => ?_⟩
  rw [h3 v, qpv]
  simp [or_assoc]
theorem qrl (k : List (Int × Unit) → Option Bool) : ∀ (l : List At) (m : List (Int × Unit)), (∀ a ∈ l, wtL a.ts ≤ 3000) → m.length + 3000 * l.length ≤ 100000000 → ∃ m', qde k l m = k m' ∧ m'.length ≤ m.length + 3000 * l.length ∧ ∀ v, v ∈ keys m' ↔ v ∈ keys m ∨ v ∈ zo (l.flatMap (·.ts))
 | [], m, _, _ => ⟨m, by rw [qde], by simp, by simp [zo]⟩
 | a :: l, m, hw, hl => by
  have ha := hw a (jc ..)
  simp only [jg] at hl
  have hu := qlx (zo a.ts) []
  have ho := qmr a.ts
  simp only [jP] at hu
  rw [qde, qwQ a oa, ja]
  obtain ⟨m1, h1, h2, h3⟩ := qnU (fun mm_23 => qde k l mm_23) (yn [] (zo a.ts)) m oa
  rw [h1]
  obtain ⟨m2, e1, e2, e3⟩ := qrl k l m1 (fun x hx => hw x (je _ hx)) oa
  refine ⟨m2, e1, by simp only [jg]; omega, fun v => ?_⟩
  rw [e3 v, h3 v, qg5, vv, qmz]
  simp [or_assoc]
noncomputable def inr (r : qk) : Bool := zao (zo ((hd r).flatMap (·.ts))) r.fp
theorem qAk {r : qk} (h : Bd r) : qfu r = some (inr r) := by
 have hh := h.hd_len
 have hb : r.fp.length ≤ 3000 := j5 (qDa _) h.d
 rw [qfu, qrK h, ja]
 obtain ⟨m, h1, h2, h3⟩ := qrl (fun mm_5 => qcN (some true) r.fp mm_5) (hd r) [] (fun a ha => h.hd_wt ha) oe
 rw [h1]
 simp only [jP] at h2
 exact qrd _ _ _ h.d oa fun v => by rw [h3 v]; simp [keys]
/-! ### .. of the reference -/
set_option maxRecDepth 100000 in
theorem live31 : qaj = some true := by
 kernel_rfl
/-! ### certain -/
def zaQ : List Int → List T → Bool
 | _, [] => true
 | sn, t :: ts => if t.k ≠ 1 then false else if t.i ∈ sn then false else zaQ (sn ++ [t.i]) ts
theorem qym : ∀ (ts : List T) (i : Nat) (m : List (Int × Unit)) (sn : List Int), m.length + ts.length ≤ 100000000 → (∀ v, v ∈ keys m ↔ v ∈ sn) → ∃ r, qb5 (fun mm_3 => some ((-1), mm_3)) ts i m = some r ∧ decide (r.1 ≥ (0 : Int)) = !zaQ sn ts
 | [], i, m, sn, _, _ => ⟨(-1, m), by rw [qb5], by simp [zaQ]⟩
 | t :: ts, i, m, sn, hl, hk => by
  simp only [jg] at hl
  rw [qb5, qdE, zaQ]
  by_cases ht : t.k = 1
  rw [if_neg (by simpa using ht), show (t.k != (1 : Int)) = false by simpa using ht, cond_false, qx5 _ _ oa, ja]
  by_cases hv : t.i ∈ sn
  rw [if_pos ((hk _).2 hv), if_pos hv]
  refine ⟨_, rfl, ?_⟩
  rw [decide_eq_true oa]
  rfl
  rw [if_neg (fun h => hv ((hk _).1 h)), if_neg hv]
  have := qoD m t.i ()
  obtain ⟨r, h1, h2⟩ := qym ts (i + 1) (zaw m t.i ()) (sn ++ [t.i]) oa fun v => by rw [qpv, hk v]; simp
  exact ⟨r, h1, h2⟩
  rw [if_pos (by simpa using ht), show (t.k != (1 : Int)) = true by simpa using ht, cond_true, ja, cond_true]
  refine ⟨_, rfl, ?_⟩
  rw [decide_eq_true oa]
  rfl
def zaH (o : qt) (r : qk) : Bool := if o.fI = true then false else if 0 < r.fx.length then false else match hd r with
 | [a] => zaQ [] a.ts
 | _ => false
theorem qw8 {o : qt} {r : qk} (h : Bd r) : qc0 ⟨o, r⟩ = some (zaH o r) := by
 rw [qc0, zaH]
 cases hk : o.fI with
 | true => simp
 | false =>
  simp only [cond_false, jO, if_false]
  by_cases hg : 0 < r.fx.length
  rw [if_pos hg, decide_eq_true oa, cond_true]
  rw [if_neg hg, decide_eq_false oa, cond_false, qrK h, ja]
  have hw := fun a ha => h.hd_wt (a := a) ha
  match hd r, hw with
  | [], _ => rfl
  | [a], hw =>
   have ha := hw a og
   have hla := qfR a.ts
   simp only [jl]
   rw [show ((((1 : Nat) : Int)) != (1 : Int)) = false from rfl, cond_false, show zh [a] 0 = some a from rfl, ja]
   obtain ⟨q, h1, h2⟩ := qym a.ts 0 [] [] oe fun v => by simp [keys]
   rw [qe0, qfv, h1, ja, ja, h2, Bool.not_not]
  | a :: b :: l, _ =>
   simp only [jg]
   rw [show (((l.length + 1 + 1 : Nat) : Int) != (1 : Int)) = true by simp; omega, cond_true]
/-! ### Never, Late -/
noncomputable def obs (x : qA) : Bool := x.fM.fI && !inr x.f1_rule
noncomputable def zb1 : List qA → Bool
 | [] => false
 | x :: l => if zaH x.fM x.f1_rule = true then true else if obs x = true then false else zb1 l
theorem qy9 {x : qA} (h : Bd x.f1_rule) : qdb x = some (!obs x) := by
 rw [qdb, qAk h, ja, obs]
 cases x.fM.fI <;> simp
theorem qrj : ∀ (l : List qA), (∀ x ∈ l, Bd x.f1_rule) → qdG (some false) l = some (zb1 l)
 | [], _ => by rw [qdG, zb1]
 | x :: l, h => by
  have hx := h x (jc ..)
  rw [qdG, show qc0 x = some (zaH x.fM x.f1_rule) from qw8 hx, ja, qy9 hx, ja, qrj l fun y hy => h y (je _ hy), zb1, Bool.not_not]
  cases zaH x.fM x.f1_rule <;> cases obs x <;> rfl
theorem qDR {p : qc} (h : BdP p) {name : ByteArray} {arity : Int} : ∀ x ∈ sOcc p name arity, Bd x.f1_rule := fun x hx => by
 obtain ⟨o, ho, rfl⟩ := jq.1 hx
 exact h.r _ (qBY ho).2
theorem qAC {p : qc} (h : BdP p) (name : ByteArray) (arity : Int) : qeg p name arity = some (zb1 (sOcc p name arity)) := by
 rw [qeg, qDd h, ja, qrj _ (qDR h)]
/-! ### StoredFacts -/
/-! ### StoredOrder -/
theorem qCH : ∀ l : List At, (∀ a ∈ l, wtL a.ts ≤ 200) → wA l ≤ 201 * l.length
 | [], _ => by simp [wA]
 | a :: l, h => by
  have h1 := h a (jc ..)
  have h2 := qCH l fun x hx => h x (je _ hx)
  rw [wA, jg]
  omega
theorem qBJ : ∀ l : List Gl, (∀ a ∈ l, wtL a.ts ≤ 200) → wG l ≤ 201 * l.length
 | [], _ => by simp [wG]
 | a :: l, h => by
  have h1 := h a (jc ..)
  have h2 := qBJ l fun x hx => h x (je _ hx)
  rw [wG, jg]
  omega
theorem qCy {r : qk} (h : yz r) : Bd r := by
 have h4 := h.h4
 have hg := h.gl
 have hb := h.bl
 rw [jb] at h4
 have a1 := qCH r.fg fun a ha => (qeC (h.a a (jo _ ha))).2.1
 have a2 := qCH r.ft fun a ha => (qeC (h.a a (jt _ ha))).2.1
 have a3 := qBJ r.fx fun a ha => (qe8 (h.g a (jo _ ha))).2
 have a4 := qBJ r.fp fun a ha => (qe8 (h.g a (jt _ ha))).2
 exact ⟨by omega, by omega, by omega, by omega⟩
theorem qvz : ∀ (ts : List T) (sn : List Int), zaQ sn ts = true → linV ts ∧ ∀ t ∈ ts, t.i ∉ sn
 | [], sn, _ => ⟨⟨fun t h => (by cases h), List.nodup_nil⟩, fun t h => by cases h⟩
 | t :: ts, sn, h => by
  rw [zaQ] at h
  by_cases h1 : t.k = 1
  rw [if_neg (by simpa using h1)] at h
  by_cases h2 : t.i ∈ sn
  rw [if_pos h2] at h
  cases h
  rw [if_neg h2] at h
  obtain ⟨⟨k1, k2⟩, k3⟩ := qvz ts _ h
  refine ⟨⟨fun u hu => (jh.1 hu).elim (fun e => e ▸ h1) (k1 u), ?_⟩, fun u hu => ?_⟩
  rw [jr, jQ]
  refine ⟨fun hm => ?_, k2⟩
  obtain ⟨u, hu, e⟩ := jq.1 hm
  exact k3 u hu (by rw [e]; simp)
  rcases jh.1 hu with rfl | hu
  exact h2
  exact fun hm => k3 u hu (jo _ hm)
  rw [if_pos (by simpa using h1)] at h
  cases h
theorem qwi : ∀ l : List qA, zb1 l = true → ∃ (i : Nat) (x : qA), l[i]? = some x ∧ zaH x.fM x.f1_rule = true
 | [], h => by cases h
 | x :: l, h => by
  rw [zb1] at h
  by_cases h1 : zaH x.fM x.f1_rule = true
  exact ⟨0, x, rfl, h1⟩
  rw [if_neg h1] at h
  by_cases h2 : obs x = true
  rw [if_pos h2] at h
  cases h
  rw [if_neg h2] at h
  obtain ⟨i, y, h3, h4⟩ := qwi l h
  exact ⟨i + 1, y, h3, h4⟩
theorem qwI {p : qc} (hp : zW p) (hb : BdP p) (a : At) : Yl (qeg p a.n (a.ts.length : Int)) fun b => b = true → ∃ (m : Nat) (o : qt), (zbv p a)[m]? = some o ∧ Cert p o := by
 refine .of (qAC hb a.n (a.ts.length : Int)) fun h => ?_
 obtain ⟨i, x, hx, hc⟩ := qwi _ h
 have e : ocF p a.n (a.ts.length : Int) = zbv p a := Option.some.inj ((qzT hb a.n (a.ts.length : Int)).symm.trans (qCJ hp a.n (a.ts.length : Int)))
 unfold sOcc at hx
 rw [v7] at hx
 obtain ⟨o, ho, e2⟩ := jN.1 hx
 subst e2
 have hat := qBY (List.mem_of_getElem? ho)
 rw [e] at ho
 refine ⟨i, o, ho, ?_⟩
 obtain ⟨r, hd', hoc⟩ := qyd (jR.1 (List.mem_of_getElem? ho)).1
 have hr : ruF p o = r := Option.some.inj (hat.1.symm.trans hoc.1)
 dsimp only at hc
 rw [hr] at hc
 unfold zaH at hc
 by_cases h1 : o.fI = true
 rw [if_pos h1] at hc
 cases hc
 rw [if_neg h1] at hc
 by_cases h2 : 0 < r.fx.length
 rw [if_pos h2] at hc
 cases hc
 rw [if_neg h2] at hc
 have hk : r.fg ++ r.ft = hd r := rfl
 obtain ⟨k1, k2, k3⟩ := hoc
 rw [hk] at k2
 have hkept : ¬ o.fG < (r.fg.length : Int) := by
  have hf : o.fI = false := by simpa using h1
  rw [hf] at k3
  exact of_decide_eq_false k3.symm
 generalize hH : hd r = H at hc k2 hk
 match H, hc with
 | [h], hc =>
  have hb2 := (qhd k2).2.1
  simp only [jl] at hb2
  have hK : r.fg = [] := jz (by
   have := (qhd k2).1
   omega)
  rw [hK, jp] at hk
  exact ⟨r, h, k1, hK, hk, jz oa, (qvz h.ts [] hc).1⟩
theorem qzs (p : qc) (hp : BkP p) : Yl (qdX p) fun b => b = true → p.fc.length ≤ 8 := by
 have tl : ∀ (l : List T) (n : Int), (∀ t ∈ l, wt t ≤ 1000000000) → Yl (qaU (some true) l n) fun _ => True := fun l => by
  induction l with
  | nil => intro n _; rw [qaU]; exact .pure trivial
  | cons t l ih =>
   intro n h
   rw [qaU, qrt t (h t (jc ..)), ja]
   exact .cond (fun _ => .pure trivial) fun _ => ih _ fun x hx => h x (je _ hx)
 have tiny : ∀ l : List T, wtL l ≤ 1000000000 → Yl (qdj l) fun _ => True := fun l h => by
  unfold qdj
  exact .cond (fun _ => .pure trivial) fun _ => tl l 0 fun t ht => by have := qft ht; omega
 have atoms : ∀ l : List At, (∀ a ∈ l, wtL a.ts ≤ 1000000000) → Yl (qdN l) fun _ => True := fun l h => by
  unfold qdN
  induction l with
  | nil => rw [qce]; exact .pure trivial
  | cons a l ih =>
   rw [qce]
   exact .bind (tiny _ (h a (jc ..))) fun _ _ => .cond (fun _ => .pure trivial) fun _ => ih fun x hx => h x (je _ hx)
 have gl0 : ∀ l : List Gl, (∀ a ∈ l, wtL a.ts ≤ 1000000000) → Yl (qaE (some true) l) fun _ => True := fun l => by
  induction l with
  | nil => intro _; rw [qaE]; exact .pure trivial
  | cons a l ih =>
   intro h
   rw [qaE]
   exact .bind (tiny _ (h a (jc ..))) fun _ _ => .cond (fun _ => .pure trivial) fun _ => ih fun x hx => h x (je _ hx)
 have goals : ∀ (l : List Gl) (n : Int), (∀ a ∈ l, wtL a.ts ≤ 1000000000) → Yl (qcg l n) fun _ => True := fun l n h => by
  unfold qcg
  exact .cond (fun _ => .pure trivial) fun _ => gl0 l h
 have l0 : ∀ l : List qk, (∀ r ∈ l, BkR r) → Yl (qbl (some true) l) fun _ => True := fun l => by
  induction l with
  | nil => intro _; rw [qbl]; exact .pure trivial
  | cons r l ih =>
   intro h
   have hr := h r (jc ..)
   rw [qbl]
   exact .cond (fun _ => .pure trivial) fun _ => .cond (fun _ => .pure trivial) fun _ => .cond (fun _ => .pure trivial) fun _ => .cond (fun _ => .pure trivial) fun _ => .cond (fun _ => .pure trivial) fun _ => .bind (atoms _ fun a ha => hr.a a (jo _ ha)) fun _ _ => .cond (fun _ => .pure trivial) fun _ => .bind (atoms _ fun a ha => hr.a a (jt _ ha)) fun _ _ => .cond (fun _ => .pure trivial) fun _ => .bind (goals _ 6 fun a ha => hr.g a (jo _ ha)) fun _ _ => .cond (fun _ => .pure trivial) fun _ => .bind (goals _ 6 fun a ha => hr.g a (jt _ ha)) fun _ _ => .cond (fun _ => .pure trivial) fun _ => ih fun x hx => h x (je _ hx)
 unfold qdX
 refine .cond (fun _ => .pure fun h => by cases h) fun _ => .cond (fun _ => .pure fun h => by cases h) fun h => (l0 _ hp.r).mono fun _ _ _ => ?_
 have := dF h
 omega
theorem qxS (l : List Gl) (n : Int) (h : ∀ a ∈ l, wtL a.ts ≤ 1000000000) : Yl (qcg l n) fun b => b = true → (l.length : Int) ≤ n := by
 have tl : ∀ (l : List T) (n : Int), (∀ t ∈ l, wt t ≤ 1000000000) → Yl (qaU (some true) l n) fun _ => True := fun l => by
  induction l with
  | nil => intro n _; rw [qaU]; exact .pure trivial
  | cons t l ih =>
   intro n h
   rw [qaU, qrt t (h t (jc ..)), ja]
   exact .cond (fun _ => .pure trivial) fun _ => ih _ fun x hx => h x (je _ hx)
 have gl0 : ∀ l : List Gl, (∀ a ∈ l, wtL a.ts ≤ 1000000000) → Yl (qaE (some true) l) fun _ => True := fun l => by
  induction l with
  | nil => intro _; rw [qaE]; exact .pure trivial
  | cons a l ih =>
   intro h
   rw [qaE]
   refine .bind (R := fun _ => True) ?_ fun _ _ => .cond (fun _ => .pure trivial) fun _ => ih fun x hx => h x (je _ hx)
   unfold qdj
   exact .cond (fun _ => .pure trivial) fun _ => tl _ 0 fun t ht => by have := qft ht; have := h a (jc ..); omega
 unfold qcg
 refine .cond (fun _ => .pure fun h => by cases h) fun hl => (gl0 l h).mono fun _ _ _ => ?_
 have := dF hl
 omega
theorem qxF {p : qc} {k : Option Bool} (hk : Yl k fun b => b = true) : ∀ l : List (Int × At), (∀ q ∈ l, Yl (qeg p q.2.n (q.2.ts.length : Int)) fun b => b = false) → Yl (qa1 k p l) fun b => b = true
 | [], _ => by rw [qa1]; exact hk
 | q :: l, h => by
  rw [qa1]
  exact .bind (h q (jc ..)) fun b hb => .cond (fun e => absurd (hb.symm.trans e) og) fun _ => qxF hk l fun x hx => h x (je _ hx)
def zb5 (p : qc) (c : qd) : Prop := c.fF = true ∨ zbj p c ∧ NevI p c
theorem qCC (fuel : Nat) (hf : 1500000000 < fuel) (hf2 : fuel ≤ 5000000000) (p : qc) (goals : List Gl) (hp : BkP p) (hq : ∀ g ∈ goals, wtL g.ts ≤ 1048576) : qdp fuel p goals = some true := by
 have ex : Yl (qaj.bind fun r => some r) fun b => b = true := .bind (R := fun b => b = true) ⟨true, live31, rfl⟩ fun b hb => .pure hb
 have key : Yl (qdp fuel p goals) fun b => b = true := by
  unfold qdp
  obtain ⟨⟨x0, e0⟩, ec, h0⟩ := qy6 fuel oa p hp
  obtain ⟨y0, ec', h0'⟩ := qAH fuel oa p hp
  obtain rfl := Option.some.inj (ec.symm.trans ec')
  rw [ec, ja]
  refine .bind (qzs p hp) fun b1 h1 => .cond (fun _ => ex) fun l1 => .bind (qxS goals 6 fun g hg => by have := hq g hg; omega) fun b2 h2 => .cond (fun _ => ex) fun l2 => .cond (fun _ => ex) fun l0 => .bind (qAr fuel oa p.fH goals 5 fun g hg => by have := hq g hg; omega) fun e3 h3 => .cond (fun _ => ex) fun l3 => ?_
  have l0 := bF l0
  dsimp only at l0
  subst l0
  have pr := h0 rfl
  have rr := h0' rfl
  have hr8 := h1 (nF l1)
  have hg6 := h2 (nF l2)
  have q := h3 (bF l3)
  have hbd : BdP p := ⟨by omega, fun r hr => qCy (pr.r r hr)⟩
  rw [qz5 goals oa 5 oa, ja]
  have bkc : BkC ⟨goals.reverse.map zat, [], [], [], 1, 5, false⟩ := ⟨fun f hf => by
   obtain ⟨g, hg, rfl⟩ := jq.1 hf
   have := hq g (vN.1 hg)
   show wtL g.ts ≤ _
   omega, fun q hq => (by cases hq), fun q hq => (by cases hq), by simp⟩
  have start : zb5 p ⟨goals.reverse.map zat, [], [], [], 1, 5, false⟩ := .inr ⟨⟨by simp; omega, ⟨fun q h => (by cases h), fun q h => (by cases h), List.Pairwise.nil, by simp⟩, ⟨⟨fun q h => (by cases h), fun q h => (by cases h), List.Pairwise.nil, fun q h => (by cases h)⟩, fun q h => (by cases h)⟩, ⟨fun f h => (by cases h), List.Pairwise.nil, by simp⟩, fun f h => (by cases h), by dsimp only; omega, by dsimp only; omega, by dsimp only; omega, by dsimp only; omega, fun q h => (by cases h), fun q h => (by cases h), fun q h => (by cases h), fun f hf => by
   obtain ⟨g, hg, rfl⟩ := jq.1 hf
   have hg := vN.1 hg
   exact ⟨fun _ => ⟨rfl, q.g g hg, q.t g hg, q.c g hg, fun x hx => ⟨q.v g hg x hx, rfl⟩⟩, fun e => absurd rfl e⟩⟩, fun i a h => by cases h⟩
  have hrun : Yl (qeR fuel p ⟨goals.reverse.map zat, [], [], [], 1, 5, false⟩ 150) fun x => x.2.2 = 0 → zb5 p x.1 ∧ qbs fuel p x.1 = some [] ∧ BkC x.1 := by
   unfold qeR
   refine .bind (qru fuel oa p hp _ bkc) fun b _ => .cond (fun _ => .pure fun h => absurd h (show ¬ (2 : Int) = 0 by omega)) fun _ => .cond (fun _ => .pure fun h => absurd h (show ¬ (2 : Int) = 0 by omega)) fun _ => ?_
   refine (qBp fuel hf hp 150 (fun c _ => zb5 p c) (fun c out e pre f t hc hfl hs hi hst => ?_) fuel [] _ oe oe bkc start).mono fun x hx h0 => ⟨hx.1, hx.2.2 h0, hx.2.1⟩
   rcases hi with hi | ⟨i1, i2⟩
   rw [hfl] at hi
   cases hi
   rcases qyb hf pr rr i1 hc hs hst with h | h1
   exact .inl h
   exact (qx4 hf i2 hc hs hst).imp id fun h2 => ⟨h1, h2⟩
  refine .bind hrun fun x hx => .cond (fun _ => ex) fun l4 => .cond (fun _ => ex) fun l5 => ?_
  obtain ⟨gi, ev, bk⟩ := hx (bF l4)
  rcases gi with gi | ⟨cr, nv⟩
  rw [l5] at gi
  cases gi
  obtain ⟨b, eb, _, l, el, _, hl, _⟩ := qpM fuel hf hp bk
  obtain rfl := Option.some.inj (el.symm.trans ev)
  have hst : x.1.fb = [] := by
   rcases hl rfl with h | h | h
   rw [qt7 fuel oa pr ec cr] at eb
   rw [← Option.some.inj eb] at h
   cases h
   rw [l5] at h
   cases h
   exact h
  refine qxF ex _ fun y hy => ?_
  obtain ⟨bb, e, hb⟩ := qwI pr hbd y.2
  refine ⟨bb, e, ?_⟩
  cases bb with
  | false => rfl
  | true =>
   obtain ⟨m, o, ho, hc⟩ := hb rfl
   obtain ⟨g, hg, _⟩ := nv y.1 y.2 hy m o ho hc
   rw [hst] at hg
   cases hg
 obtain ⟨b, e, hb⟩ := key
 rw [e, hb]
end Go.Proofs.YtamoolpdganckaaGreat
namespace Go.Proofs.YtamoolpdganckaaGreat
set_option maxRecDepth 100000
open Go.ChangeShapes Go.WideShapes Go.ChangeAt Go.RowKit
theorem qm9 : ∀ l : List D, l.length ≤ zG l
 | [] => jn _
 | d :: l => by
  have := qm9 l
  have : 1 ≤ zX d := by cases d <;> simp [zX]
  rw [jg, zG]
  omega
theorem qDx {p : qc} (h : zX (qf p) ≤ 1048576) : BkP p := by
 have hb := qxQ h
 simp only [qf, zX, zG] at h
 refine ⟨fun r hr => ?_, fun d hd => ?_⟩
 obtain ⟨b1, b2, b3, b4⟩ := hb r hr
 have h1 := qi4 (f := ql) hr
 simp only [ql, zX, zG] at h1
 have l1 := qm9 (r.fg.map zU)
 have l2 := qm9 (r.ft.map zU)
 have l3 := qm9 (r.fx.map zB)
 have l4 := qm9 (r.fp.map zB)
 rw [jd] at l1 l2 l3 l4
 refine ⟨fun a ha => ?_, fun g hg => ?_, by omega, by omega, by omega⟩
 rcases jj.1 ha with ha | ha
 have := b1 a ha; omega
 have := b2 a ha; omega
 rcases jj.1 hg with hg | hg
 have := b3 g hg; omega
 have := b4 g hg; omega
 have h1 := qi4 (f := qad) hd
 simp only [qad, zX, zG] at h1
 omega
theorem qDt {l : List Gl} (h : zX (.lst (l.map zB)) ≤ 1048576) : ∀ g ∈ l, wtL g.ts ≤ 1048576 := fun g hg => by
 simp only [zX] at h
 have h1 := qi4 (f := zB) hg
 exact quk (g := g) oa
theorem qow (p : qc) (goals : List Gl) (hp : zX (qf p) ≤ 1048576) (hg : zX (.lst (goals.map zB)) ≤ 1048576) : zg Tryz.prog 3 [qf p, .lst (goals.map zB)] (.bool true) :=
 qiU 2000000020 p goals true (qCC 2000000020 oa oa p goals (qDx hp) (qDt hg))
end Go.Proofs.YtamoolpdganckaaGreat
