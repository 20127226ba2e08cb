/-
 Texts of the seat, merged.
-/
import Derived.Test.YtamoolpdganckaaGreatLRJ
set_option linter.unusedVariables false
set_option linter.unusedSimpArgs false
set_option linter.unnecessarySimpa false
set_option linter.all false
set_option maxHeartbeats 8000000
namespace Go.Proofs.YtamoolpdganckaaGreat
set_option maxRecDepth 100000
open Go.RowKit
/-! ### applying a substitution, taking a goal out -/
def apG (c : En) (g : Gl) : Gl := ⟨g.op, g.n, apL c g.ts⟩
def apI (c : En) (q : Int × At) : Int × At := (q.1, ⟨q.2.n, apL c q.2.ts⟩)
def inG (f : Int → T) (g : Gl) : Gl := ⟨g.op, g.n, inL f g.ts⟩
theorem qwz (fuel : Nat) (hf : 1500000000 < fuel) (c : En) : ∀ (l out : List (Int × At)), (∀ q ∈ l, wtL q.2.ts ≤ 200) → out.length + l.length ≤ 1000000000 → qbF (fun out_7 => some out_7) c fuel l out = some (out ++ l.map (apI c))
 | [], out, _, _ => by rw [qbF, j7, js]
 | q :: l, out, hw, hl => by
  rw [jg] at hl
  have hq := hw q (jd ..)
  rw [qbF, qz1 c fuel q.2 oa oa, ja, qf9 oa (n := l.length) oa, ja, qwz fuel hf c l _ (fun x hx => hw x (jf _ hx)) (by rw [je, jp]; omega), ji]
  rfl
theorem qys (fuel : Nat) (hf : 1500000000 < fuel) (c : En) (l : List (Int × At)) (hw : ∀ q ∈ l, wtL q.2.ts ≤ 200) (hl : l.length ≤ 1000000000) : qeV fuel l c = some (l.map (apI c)) := by
 unfold qeV
 rw [qwz fuel hf c l [] hw (by simpa using hl), jo]
/-! ### states -/
structure y4 (p : qc) (s : qkc) : Prop where
 pr : yC p
 sd : zat s.fo s.ft s.fD s.fQ s.fR
 gl : s.fO.length ≤ 1000
 kl : s.fP.length ≤ 500
 g : ∀ g ∈ s.fO, zy g = true ∧ g.op ≤ 4 ∧ ∀ v ∈ zu g.ts, zt s.ft v = none
 k : ∀ g ∈ s.fP, zy g = true
theorem qB7 (p : qc) (g : Gl) (hw : wtL g.ts ≤ 1000000000) : Yl (qeT p g) fun b => b = true → zy g = true ∧ g.op ≤ 4 := by
 unfold qeT
 rw [qh5 g hw, ja]
 refine .cond (fun _ => .pure fun h => by cases h) fun h1 => .cond (fun _ => .pure fun h => by cases h) fun h2 => ?_
 have h2 := dF h2
 exact .cond (fun _ => .pure fun _ => ⟨nF h1, by omega⟩) fun _ => .bind (qs4 _ _ _) fun _ _ => .pure fun _ => ⟨nF h1, by omega⟩
structure BkS (s : qkc) : Prop where
 g : ∀ g ∈ s.fO, wtL g.ts ≤ 1000000000
 k : ∀ g ∈ s.fP, wtL g.ts ≤ 1000000000
 st : ∀ q ∈ s.fo, wtL q.2.ts ≤ 1000000000
 b : ∀ q ∈ s.ft, wt q.2 ≤ 1000000000
 bl : s.ft.length ≤ 9000000000000000000
theorem y4.bk {p : qc} {s : qkc} (h : y4 p s) : BkS s := by
 have := h.sd.bd.len
 exact ⟨fun g hg => by have := (qhc (h.g g hg).1).2; omega, fun g hg => by have := (qhc (h.k g hg)).2; omega, fun q hq => by have := (qgj (h.sd.st.a q hq)).2.1; omega, fun q hq => by have := (qhB (h.sd.bd.t q hq)).2; omega, by omega⟩
theorem y4.sw {p : qc} {s : qkc} (h : y4 p s) : ∀ q ∈ s.fo, wtL q.2.ts ≤ 200 := fun q hq => (qgj (h.sd.st.a q hq)).2.1
theorem y4.bw {p : qc} {s : qkc} (h : y4 p s) : ∀ q ∈ s.ft, wt q.2 ≤ 200 := fun q hq => (qhB (h.sd.bd.t q hq)).2
/-! ### a built-in goal is solved -/
/-! ### a rule is applied -/
def yy : List (Int × At) → List Int → List (Int × At)
 | l, [] => l
 | l, x :: xs => yy (l.filter fun q => decide (q.1 ≠ x)) xs
theorem qpO {l : List (Int × At)} {id : Int} (h : ∀ q ∈ l, q.1 ≠ id) : l.filter (fun q => decide (q.1 ≠ id)) = l := vY.2 fun q hq => by simpa using h q hq
theorem qCo (l : List (Int × At)) (hp : l.Pairwise fun q r => q.1 < r.1) (hl : l.length ≤ 1000000000) (id : Int) : ∀ (rest done : List (Int × At)) (i : Nat), l = done ++ rest → i = done.length → (∀ q ∈ done, q.1 ≠ id) → ∃ ok, qbr (some (l, false)) id l rest i = some (l.filter (fun q => decide (q.1 ≠ id)), ok)
 | [], done, i, h, hi, hd => by
  rw [qbr]
  rw [js] at h
  exact ⟨false, by rw [qpO (h ▸ hd)]⟩
 | q :: rest, done, i, h, hi, hd => by
  rw [qbr]
  by_cases hq : q.1 = id
  have hlen : l.length = done.length + (rest.length + 1) := by rw [h, je, jg]
  have s1 : zZ l 0 (i : Int) = some done := by
   unfold zZ
   rw [if_pos oa, h, hi]
   simp
  have s2 : zZ l ((i + 1 : Nat) : Int) (l.length : Int) = some rest := by
   unfold zZ
   rw [if_pos oa, show ((i + 1 : Nat) : Int).toNat = done.length + 1 by omega, vC, vM, h, List.drop_append, Ja oa, show done.length + 1 - done.length = 1 by omega]
   rfl
  have hr : ∀ x ∈ rest, x.1 ≠ id := fun x hx => by
   rw [h, List.pairwise_append] at hp
   have := (Jh.1 hp.2.1).1 x hx
   omega
  refine ⟨true, ?_⟩
  rw [uT hq, cond_true, s1, ja, qpw oa oa, ja, s2, ja, qnC oa oa, ja, h, List.filter_append, vv, if_neg (by simpa using hq), qpO hd, qpO hr]
  rw [uF hq, cond_false]
  refine qCo l hp hl id rest (done ++ [q]) (i + 1) (by rw [h, ji]; rfl) (by rw [je, jp]; omega) fun x hx => ?_
  rcases jl.1 hx with hx | hx
  exact hd x hx
  rw [jn.1 hx]
  exact hq
theorem qD3 (l : List (Int × At)) (hp : l.Pairwise fun q r => q.1 < r.1) (hl : l.length ≤ 1000000000) (id : Int) : ∃ ok, qfm l id = some (l.filter (fun q => decide (q.1 ≠ id)), ok) := qCo l hp hl id l [] 0 rfl rfl fun q h => by cases h
abbrev ApR := Option (List (Int × At) × List qm × List Gl × Int)
theorem qCy {Q : List (Int × At) × List qm × List Gl × Int → Prop} {k : List (Int × At) → ApR} (ids : List Int) : ∀ (n i : Nat) (l : List (Int × At)), (l.Pairwise fun q r => q.1 < r.1) → l.length ≤ 1000000000 → i + n = ids.length → (Yl (k (yy l (ids.drop i))) Q) → Yl (qbk k ids n l (i : Int)) Q
 | 0, i, l, _, _, hi, hk => by
  rw [qbk]
  rw [Ja oa, yy] at hk
  exact hk
 | n + 1, i, l, hp, hl, hi, hk => by
  obtain ⟨x, hx, _⟩ := yo (l := ids) (i := (i : Int)) oa oa
  obtain ⟨ok, e⟩ := qD3 l hp hl x
  rw [qbk, hx, ja, e, ja, show (i : Int) + 1 = ((i + 1 : Nat) : Int) by omega]
  have hle := List.length_filter_le (fun q : Int × At => decide (q.1 ≠ x)) l
  refine qCy ids n (i + 1) _ (hp.filter _) (by show (List.filter _ l).length ≤ _; omega) oa ?_
  rw [qdQ] at hx
  rw [jY oa, yy] at hk
  rw [jq oa] at hx
  rw [Option.some.inj hx] at hk
  exact hk
theorem qCr {Q : List (Int × At) × List qm × List Gl × Int → Prop} {k : List Int → ApR} (hk : ∀ l, Yl (k l) Q) : ∀ (l : List (Int × At)) (left : List Int), left.length + l.length ≤ 1000000000 → Yl (qbj k l left) Q
 | [], left, _ => by rw [qbj]; exact hk left
 | q :: l, left, h => by
  rw [jg] at h
  rw [qbj, qf9 oa (n := l.length) oa, ja]
  exact qCr hk l _ (by rw [je, jp]; omega)
theorem qug {Q : List qm → Prop} {k : Bool → Option (List qm)} (hk : ∀ b, Yl (k b) Q) (ids : List Int) : ∀ (l : List Int) (b : Bool), Yl (qa7 k ids l b) Q
 | [], b => by rw [qa7]; exact hk b
 | x :: l, b => by
  rw [qa7]
  exact .cond (fun _ => .bind (qt0 x ids) fun r _ => qug hk ids l r) fun _ => qug hk ids l false
theorem qtG (ids : List Int) : ∀ (l out : List qm), out.length + l.length ≤ 1000000000 → Yl (qa9 (fun o => some o) ids l out) fun r => r.length ≤ out.length + l.length
 | [], out, _ => by rw [qa9]; exact .pure og
 | f :: l, out, h => by
  rw [jg] at h ⊢
  rw [qa9]
  refine qug (fun b => .cond (fun _ => ?_) fun _ => (qtG ids l out oa).mono fun r hr => by omega) ids _ true
  rw [qf9 oa (n := l.length) oa, ja]
  exact (qtG ids l _ (by rw [je, jp]; omega)).mono fun r hr => by rw [je, jp] at hr; omega
theorem qBi (l : List qm) (hl : l.length ≤ 1000000) (ids : List Int) : Yl (qeM l ids) fun r => r.length ≤ l.length := by
 unfold qeM
 exact (qtG ids l [] oe).mono fun r hr => by simpa using hr
theorem qAk {Q : List qm × Int → Prop} {k : Int → Option (List qm × Int)} (f : qm) (N : Nat) (hk : ∀ i : Nat, i ≤ N → Yl (k (i : Int)) Q) : ∀ (l : List qm) (i : Nat), i + l.length ≤ N → Yl (qca k f l i) Q
 | [], i, h => by rw [qca]; exact hk i (by simpa using h)
 | x :: l, i, h => by
  rw [jg] at h
  rw [qca]
  exact .bind (qtt x f) fun _ _ => .cond (fun _ => qAk f N hk l (i + 1) oa) fun _ => hk i oa
theorem qCZ (l : List qm) (f : qm) : Yl (qfi l f) fun _ => True := by
 unfold qfi
 refine .bind (qzb l) fun r hr => .cond (fun _ => .pure trivial) fun h => .bind (qsC f) fun _ _ => .cond (fun _ => .pure trivial) fun _ => .bind (qCF l f) fun _ _ => .cond (fun _ => .pure trivial) fun _ => .cond (fun _ => .pure trivial) fun _ => ?_
 have hl := (hr (nF h)).2
 refine qAk f l.length (fun i hi => ?_) l 0 oa
 have s1 : zZ l 0 (i : Int) = some (l.take i) := by
  unfold zZ
  rw [if_pos oa]
  simp
 have s2 : zZ l (i : Int) (l.length : Int) = some (l.drop i) := by
  unfold zZ
  rw [if_pos oa]
  simp
 rw [s1, ja, qpw oa oe, ja, qf9 oa (n := 0) oe, ja, s2, ja, qnC oa oe, ja]
 exact .pure trivial
theorem qze (fuel : Nat) (hf : 1500000000 < fuel) {env : En} (he : EnW 200 env) (fresh : Int) {Q : List (Int × At) × List qm × List Gl × Int → Prop} (hQ : Q ([], [], [], 6)) {k : List Gl → ApR} : ∀ (l out : List Gl), (∀ g ∈ l, wtL g.ts ≤ 200) → out.length + l.length ≤ 1000000000 → ((∀ g ∈ l, zy (inG (ef env fresh) g) = true) → Yl (k (out ++ l.map (inG (ef env fresh)))) Q) → Yl (qaL k env fresh fuel l out) Q
 | [], out, _, _, hk => by
  rw [qaL]
  have := hk fun g h => by cases h
  rw [j7, js] at this
  exact this
 | g :: l, out, hw, hl, hk => by
  rw [jg] at hl
  have hg := hw g (jd ..)
  have h1 := qwS (W := 200) oa (fun v => qEn oa he fresh v) g.ts
  have h2 : wtL g.ts * 200 ≤ 200 * 200 := jM _ hg
  rw [qaL, qwE env fresh fuel g oa oa, ja, qh5 _ (show wtL (inL (ef env fresh) g.ts) ≤ 1000000000 by omega), ja]
  refine .cond (fun _ => .pure hQ) fun hr => ?_
  rw [qf9 oa (n := l.length) oa, ja]
  refine qze fuel hf he fresh hQ l _ (fun x hx => hw x (jf _ hx)) (by rw [je, jp]; omega) fun hl => ?_
  have := hk fun x hx => by
   rcases jh.1 hx with rfl | hx
   exact nF hr
   exact hl x hx
  rw [ji]
  exact this
theorem qyi (fuel : Nat) (hf : 1500000000 < fuel) {p : qc} (hp : yC p) {l : List (Int × At)} (hst : zb9 l) (h : List qm) (hh : h.length ≤ 5000) (fresh : Int) (rule : Int) (r : qr) (hr : zi p.fd rule = some r) (ids : List Int) (env : En) (he : zan l r ids env) : Yl (qdq fuel p l h env fresh rule ids) fun e => e.2.2.2 = 0 → e.1 = yy l (ids.drop r.fi.length) ∧ e.2.2.1 = r.fg.map (inG (ef env fresh)) ∧ ∀ g ∈ e.2.2.1, zy g = true := by
 have hrule := hp.r r (qfM hr)
 have hlen := he.len
 rw [je] at hlen
 have hbl := hrule.bl
 have hsl := hst.n
 unfold qdq
 rw [hr, ja]
 refine .cond (fun _ => .pure fun h => absurd h (show ¬ (6 : Int) = 0 by omega)) fun _ => ?_
 rw [show ((ids.length : Int) - (r.fi.length : Int)).toNat = ids.length - r.fi.length by omega]
 have hrl : ∀ (xs : List Int) (l : List (Int × At)), (yy l xs).length ≤ l.length := fun xs => by
  induction xs with
  | nil => intro l; rw [yy]; exact jk _
  | cons x xs ih =>
   intro l
   have := ih (l.filter fun q => decide (q.1 ≠ x))
   have := List.length_filter_le (fun q : Int × At => decide (q.1 ≠ x)) l
   rw [yy]
   omega
 refine qCy ids _ _ l hst.s oa oa (qCr (fun left => .bind (qBi h oa left) fun h' _ => ?_) _ [] (by have := hrl (ids.drop r.fi.length) l; simp; omega))
 have fin : ∀ h2 : List qm, Yl (qaL (fun body_22 => some (yy l (ids.drop r.fi.length), h2, body_22, 0)) env fresh fuel r.fg []) fun e => e.2.2.2 = 0 → e.1 = yy l (ids.drop r.fi.length) ∧ e.2.2.1 = r.fg.map (inG (ef env fresh)) ∧ ∀ g ∈ e.2.2.1, zy g = true := fun h2 => by
  refine qze fuel hf he.w fresh (fun h => absurd h (show ¬ (6 : Int) = 0 by omega)) _ [] (fun g hg => (qhc (hrule.g g (jz _ hg))).2) oe fun hb => .pure fun _ => ⟨rfl, by simp, fun g hg => ?_⟩
  simp only [jo] at hg
  obtain ⟨x, hx, rfl⟩ := jx.1 hg
  exact hb x hx
 unfold qeD qa2
 rw [ja]
 exact .cond (fun _ => .bind (qCZ _ _) fun r2 _ => .cond (fun _ => .pure fun h => absurd h (show ¬ (6 : Int) = 0 by omega)) fun _ => fin _) fun _ => fin _
theorem qCm : ∀ (xs : List Int) (l : List (Int × At)), ∀ q ∈ yy l xs, q ∈ l
 | [], l, q, h => by rw [yy] at h; exact h
 | x :: xs, l, q, h => by
  rw [yy] at h
  exact (vl.1 (qCm xs _ q h)).1
/-! ### the moves of a state -/
theorem qA5 {l : List (Int × At)} (hst : zb9 l) (x : Int × At) (hx : wtL x.2.ts ≤ 200) : Yl (qdd l x) fun r => r.2 = 0 → r.1 = l ++ [x] ∧ zA x.2 = true := by
 have hl := hst.n
 unfold qdd
 refine .bind (qAV l fun q hq => by have := (qgj (hst.a q hq)).2.1; omega) fun _ _ => .cond (fun _ => .pure fun h => absurd h (show ¬ (2 : Int) = 0 by omega)) fun _ => ?_
 rw [qh4 x.2 oa, ja]
 refine .cond (fun _ => .pure fun h => absurd h (show ¬ (2 : Int) = 0 by omega)) fun hr => .cond (fun _ => .pure fun h => absurd h (show ¬ (2 : Int) = 0 by omega)) fun _ => ?_
 have hr := nF hr
 have main : ∀ (k : Option (List (Int × At) × Int)) (_ : Yl k fun r => r.2 = 0 → r.1 = l ++ [x] ∧ zA x.2 = true) (m : List (Int × At)), Yl (qaO k x m) fun r => r.2 = 0 → r.1 = l ++ [x] ∧ zA x.2 = true := fun k hk m => by
  induction m with
  | nil => rw [qaO]; exact hk
  | cons y m ih =>
   rw [qaO]
   exact .cond (fun _ => .pure fun h => absurd h (show ¬ (8 : Int) = 0 by omega)) fun _ => ih
 refine main _ (.cond (fun h => ?_) fun _ => .cond (fun _ => .pure fun h => absurd h (show ¬ (6 : Int) = 0 by omega)) fun _ => ?_) l
 have h := dT h
 obtain ⟨y, hy, _⟩ := yo (l := l) (i := wr ((l.length : Int) - 1)) (by rw [qgA oa]; omega) (by rw [qgA oa]; omega)
 rw [hy, ja]
 refine .cond (fun _ => .pure fun h => absurd h (show ¬ (2 : Int) = 0 by omega)) fun _ => .cond (fun _ => .pure fun h => absurd h (show ¬ (6 : Int) = 0 by omega)) fun _ => ?_
 rw [qpw oa oa, ja, qf9 oa (n := 0) oa, ja]
 exact .pure fun _ => ⟨rfl, hr⟩
 rw [qpw oa oa, ja, qf9 oa (n := 0) oa, ja]
 exact .pure fun _ => ⟨rfl, hr⟩
/-! ### numbers that wrap -/
theorem qDv (a b : Int) : wr (wr a + b) = wr (a + b) := by
 simp only [wr, IntKind.wrap, IntKind.bits, IntKind.signed]
 simp
 split <;> split <;> split <;> omega
theorem qEN (a : Int) : wr (wr a) = wr a := qos _ _
/-! ### the weight of what is small -/
def Bf (a : At) : Prop := wtL a.ts ≤ 1048576
theorem Bf.wt {a : At} (h : Bf a) : wtL a.ts ≤ 1048576 := h
theorem qAo {t : T} : ∀ {l : List T}, t ∈ l → Go.Proofs.YtamoolpdganckaaGreat.wt t ≤ wtL l
 | u :: l, h => by
  simp only [wtL]
  rcases jh.1 h with rfl | h
  omega
  have := qAo h; omega
theorem Bf.one {a : At} (h : Bf a) : ∀ t ∈ a.ts, Go.Proofs.YtamoolpdganckaaGreat.wt t ≤ 1048576 := fun t ht => vt (qAo ht) h
/-! ### rankings -/
def zbN (s : ByteArray) (n : Int) (r : qh) : Bool := (r.fA.toList == s.toList) && ((r.fp.length : Int) == n)
def zP (l : List qh) (s : ByteArray) (n : Int) : qh × Bool := match l.find? (zbN s n) with
 | some r => (r, true)
 | none => (⟨⟨#[]⟩, 0, []⟩, false)
theorem qoT (s : ByteArray) (n : Int) : ∀ l, qen l s n = some (zP l s n) := by
 intro l
 rw [qen]
 induction l with
 | nil => rw [qb1]; rfl
 | cons r l ih =>
  rw [qb1, ih]
  cases h1 : (r.fA.toList == s.toList) <;> cases h2 : ((r.fp.length : Int) == n) <;> simp [zP, List.find?, zbN, h1, h2]
theorem qBm (s : ByteArray) (n : Int) (r : qh) : qhX r s n = some (zbN s n r) := by
 rw [qhX, zbN]
 cases h1 : (r.fA.toList == s.toList) <;> rfl
theorem quS (s : ByteArray) (n : Int) : ∀ (l : List qh) (i : Nat), (l.find? (zbN s n) = none ∧ qbC (some (-1)) s n l i = some (-1)) ∨ ∃ j r, l.find? (zbN s n) = some r ∧ l[j]? = some r ∧ qbC (some (-1)) s n l i = some ((i + j : Nat) : Int)
 | [], i => .inl ⟨rfl, by rw [qbC]⟩
 | r :: l, i => by
  rw [qbC, qBm]
  simp only [ja, List.find?]
  cases h : zbN s n r with
  | true => exact .inr ⟨0, r, rfl, rfl, rfl⟩
  | false =>
   rcases quS s n l (i + 1) with ⟨e1, e2⟩ | ⟨j, q, e1, e2, e3⟩
   exact .inl ⟨e1, e2⟩
   exact .inr ⟨j + 1, q, e1, by simpa using e2, by rw [show i + (j + 1) = i + 1 + j by omega]; exact e3⟩
theorem qwb (l : List qh) (s : ByteArray) (n : Int) : qii l s n = some (zP l s n) := by
 rw [qii, qf6, zP]
 rcases quS s n l 0 with ⟨e1, e2⟩ | ⟨j, q, e1, e2, e3⟩
 rw [e2, e1]; rfl
 rw [e3, e1]
 simp only [ja, ju]
 rw [decide_eq_false oa, qdQ, e2]
 rfl
def zbO (n : Int) : Bool := decide (0 ≤ n ∧ n ≤ 1048576)
def zR (r : qh) : Bool := zbO r.fL && decide (r.fp.length ≤ 6) && r.fp.all zbO
theorem qCK (n : Int) : qgG n = some (!zbO n) := by
 rw [qgG, zbO]
 by_cases h : n < 0
 rw [decide_eq_true h, decide_eq_false (show ¬ (0 ≤ n ∧ n ≤ 1048576) by omega)]; rfl
 rw [decide_eq_false h]
 by_cases h2 : n > 1048576
 rw [decide_eq_true h2, decide_eq_false (show ¬ (0 ≤ n ∧ n ≤ 1048576) by omega)]; rfl
 rw [decide_eq_false h2, decide_eq_true (show 0 ≤ n ∧ n ≤ 1048576 by omega)]; rfl
theorem qvi : ∀ (l : List Int) (i : Nat), ∃ r, qcb (some (-1)) l i = some r ∧ (decide (r ≥ 0) = !l.all zbO)
 | [], i => ⟨-1, by rw [qcb], rfl⟩
 | n :: l, i => by
  rw [qcb, qCK]
  simp only [ja, List.all_cons]
  cases h : zbO n with
  | false => exact ⟨(i : Int), rfl, by simp⟩
  | true =>
   obtain ⟨r, e1, e2⟩ := qvi l (i + 1)
   exact ⟨r, e1, by simpa using e2⟩
theorem qwT (r : qh) : qhL r = some (zR r) := by
 rw [qhL, qCK, zR]
 simp only [ja, Bool.not_not]
 cases h : zbO r.fL with
 | false => rfl
 | true =>
  by_cases h2 : (r.fp.length : Int) ≤ 6
  rw [decide_eq_true h2, decide_eq_true (show r.fp.length ≤ 6 by omega), qfn, qf5]
  obtain ⟨q, e1, e2⟩ := qvi r.fp 0
  rw [e1]
  simp [e2]
  rw [decide_eq_false h2, decide_eq_false (show ¬ r.fp.length ≤ 6 by omega)]
  simp
theorem qwM (l : List qh) : qhK l = some (l.all zR) := by
 rw [qhK]
 induction l with
 | nil => rw [qfc]; rfl
 | cons r l ih =>
  rw [qfc, qwT, ih, List.all_cons]
  simp only [ja]
  cases zR r <;> rfl
/-! ### the variables of the reference -/
theorem qvm (fuel : Nat) (a : At) (h : wtL a.ts < fuel) (hm : wtL a.ts ≤ 1000000000) : qbM fuel a = some (yj [] (zu a.ts)) := by
 rw [qbM, qbD, qqB fuel _ a.ts [] h (by simpa using hm)]
 rfl
/-! ### the rank of a constraint -/
def zbt : List Int → List T → Int → Int
 | f :: fs, t :: ts, n => zbt fs ts (wr (n + wr (f * (zp t : Int))))
 | _, _, n => n
theorem qxC (k : Int → Option Int) (args : List T) : ∀ (fs : List Int) (n : Int) (i : Nat), (∀ t ∈ args, wt t ≤ 1000000000) → fs.length = (args.drop i).length → qaN k args fs n i = k (zbt fs (args.drop i) n)
 | [], n, i, _, _ => by rw [qaN]; rfl
 | f :: fs, n, i, hw, hl => by
  have hi : i < args.length := by simp only [vy, jg] at hl; omega
  have hd := jY hi
  rw [qaN, qdQ, jq hi]
  simp only [ja]
  rw [qsB _ (hw _ (List.getElem_mem hi))]
  simp only [ja]
  rw [qxC k args fs _ (i + 1) hw (by simp only [vy, jg] at hl ⊢; omega), hd]
  rfl
theorem qsv {l : List qh} {s : ByteArray} {n : Int} (h : (zP l s n).2 = true) : ((zP l s n).1.fp.length : Int) = n ∧ (zP l s n).1 ∈ l := by
 unfold zP at h ⊢
 cases e : l.find? (zbN s n) with
 | none => rw [e] at h; cases h
 | some r =>
  have h1 := List.find?_some e
  simp only [zbN, jj, beq_iff_eq] at h1
  exact ⟨h1.2, List.mem_of_find?_eq_some e⟩
/-! ### the sum -/
/-! ### maps in the order of insertion -/
def zap : List (Int × Int) → Int
 | [] => 0
 | q :: m => q.2 + zap m
/-! ### the reference's lists -/
/-! ### a term -/
mutual
def NV : T → Prop
 | .mk k _ _ ar => (k = 1 → ar = []) ∧ NVL ar
def NVL : List T → Prop
 | [] => True
 | t :: ts => NV t ∧ NVL ts
end
theorem NV.ar {t : T} (h : NV t) : NVL t.ar := by cases t; simp only [NV] at h; exact h.2
/-! ### a constraint -/
/-! ### the removed heads -/
/-! ### the body -/
def okV (head ones vs : List Int) : Bool := vs.all fun v => decide (v ∈ head) || decide (v ∈ ones)
theorem qzM (k : Option Bool) (r1 : List (Int × Bool) × List (Int × Bool)) (head ones : List Int) (hh : ∀ v, (zt r1.1 v).getD false = decide (v ∈ head)) (ho : ∀ v, (zt r1.2 v).getD false = decide (v ∈ ones)) : ∀ vs : List Int, qae k r1 vs = if okV head ones vs = true then k else some false
 | [] => by rw [qae]; rfl
 | v :: vs => by
  rw [qae, qzM k r1 head ones hh ho vs, hh, ho, okV, okV, List.all_cons]
  cases decide (v ∈ head) <;> cases decide (v ∈ ones) <;> simp
def Bg (g : Gl) : Prop := Bf ⟨g.n, g.ts⟩
/-! ### the end -/
def badQ (ones : List Int) (q : Int × Int) : Bool := decide (q.2 < 0) && !decide (q.1 ∈ ones)
theorem qsx (k : Int → Option Bool) (r1 : List (Int × Bool) × List (Int × Bool)) (ones : List Int) (ho : ∀ v, (zt r1.2 v).getD false = decide (v ∈ ones)) : ∀ (l : List (Int × Int)) (x : Int), wr x = x →
 zU (fun q (v : Int) => qda k r1 q v) (fun v => qdb k r1 v) l x = if l.any (badQ ones) = true then some false else k (wr (x + zap l))
 | [], x, hx => by
  simp only [zU, qdb, zap, vE, hx]
  rfl
 | q :: l, x, hx => by
  rw [zU, qda, ho, List.any_cons, badQ]
  have ih := qsx k r1 ones ho l (wr (x + q.2)) (qEN _)
  have e : wr (wr (x + q.2) + zap l) = wr (x + zap (q :: l)) := by rw [qDv, zap, Int.add_assoc]
  rw [e] at ih
  cases decide (q.2 < 0) with
  | true =>
   cases decide (q.1 ∈ ones) with
   | true => exact ih
   | false => simp [zam]
  | false => exact ih
theorem qzD {l m : List (Int × Int)} (h : l.Perm m) : zap l = zap m := by
 induction h with
 | nil => rfl
 | cons x _ ih => simp only [zap, ih]
 | swap x y l => simp only [zap]; omega
 | trans _ _ i1 i2 => exact i1.trans i2
theorem qBt {α : Type} {l m : List α} (p : α → Bool) (h : l.Perm m) : l.any p = m.any p := by
 rw [jO, vg, vg]
 constructor
 rintro ⟨x, h1, h2⟩; exact ⟨x, h.mem_iff.1 h1, h2⟩
 rintro ⟨x, h1, h2⟩; exact ⟨x, h.mem_iff.2 h1, h2⟩
theorem quf (k : Int → Option Bool) (r1 : List (Int × Bool) × List (Int × Bool)) (ones : List Int) (ho : ∀ v, (zt r1.2 v).getD false = decide (v ∈ ones)) (m : List (Int × Int)) (c : Int) (hc : wr c = c) (b : Bool) (hb : (if m.any (badQ ones) = true then some false else k (wr (c + zap m))) = some b) : qfJ k r1 m c = some b := by
 rw [qfJ]
 refine qtQ fun l' hl => ?_
 rw [qsx k r1 ones ho l' c hc, qBt _ hl, qzD hl]
 exact hb
/-! ### a goal that unifies; no removed heads -/
theorem qu4 (fuel : Nat) (ranks : List qh) (rule : qr) (hR : rule.ff = []) (r1 : List (Int × Bool) × List (Int × Bool)) (kP : Int → List (Int × Int) → Option Bool) (c : Int) (m : List (Int × Int)) :
 ∀ l : List Gl, qJ kP fuel r1 rule ranks l c m = if (l.any fun g => decide (g.op = 3) || decide (g.op = 0)) = true then some false else kP c m
 | [] => by rw [qJ]; rfl
 | g :: l => by
  rw [qJ, qu4 fuel ranks rule hR r1 kP c m l, hR, List.any_cons]
  by_cases e3 : g.op = 3
  simp [e3]
  by_cases h0 : g.op = 0
  simp [h0]
  simp [e3, h0]
/-! ### the variables of the heads, and those that are computed -/
def zaT (a : At) : List Int := yj [] (zu a.ts)
theorem qAm {a : At} (h : Bf a) : (zaT a).length ≤ 1048576 := by
 have h1 := qnt (zu a.ts) []
 have h2 := qqu a.ts
 have h3 := h.wt
 simp only [jV, ju] at h1
 unfold zaT
 omega
theorem quz : ∀ (l : List (Int × Bool)) (x : Int) (d : Bool), (y8 l x d).length ≤ l.length + 1 := qwd
theorem qsz {m : List (Int × Bool)} {v : Int} (h : m.length ≤ 1000000000) : zax m v true = some (y8 m v true) := if_pos oa
theorem qwF (m : List (Int × Bool)) (x v : Int) : (zt (y8 m x true) v).getD false = ((zt m v).getD false || decide (v = x)) := by
 rw [qu2]
 by_cases h : x = v
 subst h; simp
 have h' : ¬ v = x := fun e => h e.symm
 simp [h, h']
theorem qxo (k : List (Int × Bool) → Option (List (Int × Bool) × List (Int × Bool))) : ∀ (vs : List Int) (mm : List (Int × Bool)), mm.length + vs.length ≤ 100000000 → ∃ mm', qdg k vs mm = k mm' ∧ mm'.length ≤ mm.length + vs.length ∧ ∀ v, (zt mm' v).getD false = ((zt mm v).getD false || decide (v ∈ vs))
 | [], mm, _ => ⟨mm, by rw [qdg], by simp, by simp⟩
 | x :: vs, mm, h => by
  simp only [jg] at h
  have hl := quz mm x true
  obtain ⟨mm', e1, e2, e3⟩ := qxo k vs (y8 mm x true) oa
  refine ⟨mm', by rw [qdg, qsz oa]; exact e1, by simp only [jg]; omega, fun v => ?_⟩
  rw [e3, qwF, Bool.or_assoc]
  congr 1
  rw [jO]
  simp
theorem qwD (k : List (Int × Bool) → Option (List (Int × Bool) × List (Int × Bool))) : ∀ (l : List At) (mm : List (Int × Bool)), (∀ a ∈ l, Bf a) → mm.length + 1048576 * l.length ≤ 100000000 → ∃ mm', qcP k l mm = k mm' ∧ mm'.length ≤ mm.length + 1048576 * l.length ∧ ∀ v, (zt mm' v).getD false = ((zt mm v).getD false || decide (v ∈ l.flatMap zaT))
 | [], mm, _, _ => ⟨mm, by rw [qcP], by simp, by simp⟩
 | a :: l, mm, hb, h => by
  simp only [jg] at h
  have ha := hb a (jd ..)
  have hw := ha.wt
  have hv := qAm ha
  obtain ⟨m1, e1, e2, e3⟩ := qxo (fun mm_23 => qcP k l mm_23) (zaT a) mm oa
  obtain ⟨m2, f1, f2, f3⟩ := qwD k l m1 (fun x hx => hb x (jf _ hx)) oa
  refine ⟨m2, ?_, by simp only [jg]; omega, fun v => ?_⟩
  rw [qcP, qsO a oa]
  simp only [ja]
  exact e1.trans f1
  rw [f3, e3, Bool.or_assoc]
  congr 1
  rw [jO]
  simp
def zaB (head : List Int) (g : Gl) : List Int := if g.op = 4 then match g.ts with
 | t :: _ => if t.k = 1 ∧ t.i ∉ head then [t.i] else []
 | [] => [] else []
def y5 (head : List Int) (l : List Gl) : List Int := l.flatMap (zaB head)
theorem qvE (k : List (Int × Bool) → Option (List (Int × Bool) × List (Int × Bool))) (hm : List (Int × Bool)) (head : List Int) (hh : ∀ v, (zt hm v).getD false = decide (v ∈ head)) : ∀ (l : List Gl) (mm : List (Int × Bool)), mm.length + l.length ≤ 100000000 → ∃ mm', qV k hm l mm = k mm' ∧ mm'.length ≤ mm.length + l.length ∧ ∀ v, (zt mm' v).getD false = ((zt mm v).getD false || decide (v ∈ y5 head l))
 | [], mm, _ => ⟨mm, by rw [qV], by simp, by simp [y5]⟩
 | g :: l, mm, h => by
  simp only [jg] at h
  have same : (zaB head g = []) → (qV k hm (g :: l) mm = qV k hm l mm) → ∃ mm', qV k hm (g :: l) mm = k mm' ∧ mm'.length ≤ mm.length + (g :: l).length ∧ ∀ v, (zt mm' v).getD false = ((zt mm v).getD false || decide (v ∈ y5 head (g :: l))) := fun h1 h2 => by
   obtain ⟨mm', e1, e2, e3⟩ := qvE k hm head hh l mm oa
   refine ⟨mm', h2.trans e1, by simp only [jg]; omega, fun v => ?_⟩
   rw [e3, y5, y5, vn, h1, jo]
  by_cases h4 : g.op = 4
  cases hts : g.ts with
  | nil =>
   refine same (by simp [zaB, hts]) ?_
   rw [qV]
   simp [h4, hts]
  | cons t ts =>
   have hgt : zi g.ts 0 = some t := by rw [hts]; rfl
   have hpos : decide ((g.ts.length : Int) > 0) = true := by rw [hts]; simp
   by_cases hk : t.k = 1
   by_cases hi : t.i ∈ head
   refine same (by simp [zaB, hts, hi]) ?_
   rw [qV]
   simp [h4, hpos, hgt, hk, hh, hi]
   have hl := quz mm t.i true
   obtain ⟨mm', e1, e2, e3⟩ := qvE k hm head hh l (y8 mm t.i true) oa
   have hc : zaB head g = [t.i] := by simp [zaB, h4, hts, hk, hi]
   refine ⟨mm', ?_, by simp only [jg]; omega, fun v => ?_⟩
   rw [qV]
   simp only [show (g.op == (4 : Int)) = true by simpa using h4, hpos, hgt, show (t.k == (1 : Int)) = true by simpa using hk, hh, hi, decide_false, Bool.not_false, cond_true, ja, qsz (show mm.length ≤ 1000000000 by omega)]
   exact e1
   rw [e3, qwF, y5, y5, vn, hc, Bool.or_assoc]
   congr 1
   rw [jO]
   simp
   refine same (by simp [zaB, hts, hk]) ?_
   rw [qV]
   simp [h4, hpos, hgt, beq_false_of_ne hk]
  refine same (by simp [zaB, h4]) ?_
  rw [qV]
  simp [beq_false_of_ne h4]
/-! ### the two together -/
structure Br (r : qr) : Prop where
 lk : r.fi.length ≤ 20
 lr : r.ff.length ≤ 20
 lb : r.fg.length ≤ 20
 bk : ∀ a ∈ r.fi, Bf a
 br : ∀ a ∈ r.ff, Bf a
 bb : ∀ g ∈ r.fg, Bg g
def zac (r : qr) : List Int := r.fi.flatMap zaT ++ r.ff.flatMap zaT
theorem quR (r : qr) (h : Br r) : ∃ r1, qfT r = some r1 ∧ (∀ v, (zt r1.1 v).getD false = decide (v ∈ zac r)) ∧ ∀ v, (zt r1.2 v).getD false = decide (v ∈ y5 (zac r) r.fg) := by
 obtain ⟨hk, hr, hb, bk, br, bb⟩ := h
 have hH : qh3 r = some (r.fi ++ r.ff) := by
  rw [qh3, qjm]
  simp only [ja]
  have hw : wr ((r.fi.length : Int) + (r.ff.length : Int)) = ((r.fi.length + r.ff.length : Nat) : Int) := by rw [qgA oa]; simp
  rw [hw, zai, if_pos oa]
  simp only [ja]
  rw [qk5 oe oe]
  simp only [ja, jo]
  rw [qk5 oa oa]
  rfl
 rw [qfT, hH]
 simp only [ja]
 obtain ⟨hm, e1, e2, e3⟩ := qwD (fun mm_6 => qV (fun mm_9 => some (mm_6, mm_9)) mm_6 r.fg []) (r.fi ++ r.ff) [] (fun a ha => (jl.1 ha).elim (bk a) (br a)) oe
 have hh : ∀ v, (zt hm v).getD false = decide (v ∈ zac r) := fun v => by rw [e3]; simp [zt, zac]
 obtain ⟨cm, f1, f2, f3⟩ := qvE (fun mm_9 => some (hm, mm_9)) hm (zac r) hh r.fg [] oe
 exact ⟨(hm, cm), e1.trans f1, hh, fun v => by rw [f3]; simp [zt]⟩
/-! ### a form and its value -/
def ab : List (Int × Int) → Nat
 | [] => 0
 | q :: m => q.2.natAbs + ab m
def evF (F : Int → Nat) : List (Int × Int) → Int
 | [] => 0
 | q :: m => q.2 * (F q.1 : Int) + evF F m
theorem qCe (v : Int) : ∀ m : List (Int × Int), ((zt m v).getD 0).natAbs ≤ ab m
 | [] => by simp [zt]
 | q :: m => by
  have := qCe v m
  rw [zt, ab]
  split
  show q.2.natAbs ≤ _
  omega
  omega
theorem qCz (v τ : Int) : ∀ m : List (Int × Int), ab (y8 m v ((zt m v).getD 0 + τ)) ≤ ab m + τ.natAbs
 | [] => by simp [y8, zt, ab]
 | q :: m => by
  have := qCz v τ m
  simp only [y8, zt]
  split
  show (q.2 + τ).natAbs + ab m ≤ q.2.natAbs + ab m + _
  omega
  rw [ab, ab]
  omega
theorem qzm (F : Int → Nat) (v τ : Int) : ∀ m : List (Int × Int), evF F (y8 m v ((zt m v).getD 0 + τ)) = evF F m + τ * (F v : Int)
 | [] => by simp [y8, zt, evF]
 | q :: m => by
  have := qzm F v τ m
  simp only [y8, zt]
  split
  rename_i h
  show (q.2 + τ) * (F v : Int) + evF F m = q.2 * (F q.1 : Int) + evF F m + τ * (F v : Int)
  rw [Int.add_mul, h]
  omega
  rw [evF, evF, this]
  omega
theorem qzy (v d : Int) : ∀ m : List (Int × Int), (y8 m v d).length ≤ m.length + 1
 | [] => by simp [y8]
 | q :: m => by
  have := qzy v d m
  simp only [y8]
  split
  simp
  rw [jg, jg]
  omega
theorem quX {fuel : Nat} {τ : Int} (hr : ∀ (t : T) (c : Int) (m : List (Int × Int)), zM t = true → wt t < fuel → (c.natAbs + ab m) + τ.natAbs * wt t ≤ 4000000000000000000 → m.length + wt t ≤ 1000000000 →
 ∃ c' m', qdp fuel t τ c m = some (c', m') ∧ c'.natAbs + ab m' ≤ (c.natAbs + ab m) + τ.natAbs * wt t ∧ m'.length ≤ m.length + wt t ∧ ∀ F, c' + evF F m' = c + evF F m + τ * (szT F t : Int)) :
 ∀ (l : List T) (c : Int) (m : List (Int × Int)), zL l = true → wtL l < fuel → (c.natAbs + ab m) + τ.natAbs * wtL l ≤ 4000000000000000000 → m.length + wtL l ≤ 1000000000 →
  ∃ c' m', qbX (fun f_6 mm_7 => some (f_6, mm_7)) (qdp fuel) τ l c m = some (c', m') ∧ c'.natAbs + ab m' ≤ (c.natAbs + ab m) + τ.natAbs * wtL l ∧ m'.length ≤ m.length + wtL l ∧ ∀ F, c' + evF F m' = c + evF F m + τ * (szL F l : Int)
 | [], c, m, _, _, _, _ => ⟨c, m, by rw [qbX], by omega, by omega, fun F => by rw [szL]; simp⟩
 | t :: l, c, m, hfm, hf, hb, hl => by
  rw [zL, jj] at hfm
  rw [wtL] at hf hb hl
  rw [Nat.mul_add] at hb
  obtain ⟨c1, m1, e1, b1, l1, s1⟩ := hr t c m hfm.1 oa oa oa
  obtain ⟨c2, m2, e2, b2, l2, s2⟩ := quX hr l c1 m1 hfm.2 oa oa oa
  refine ⟨c2, m2, by rw [qbX, e1, ja, e2], by rw [wtL, Nat.mul_add]; omega, by rw [wtL]; omega, fun F => ?_⟩
  rw [s2, s1, szL, show ((szT F t + szL F l : Nat) : Int) = (szT F t : Int) + (szL F l : Int) by omega, Int.mul_add]
  omega
theorem qwy (τ : Int) : ∀ (fuel : Nat) (t : T) (c : Int) (m : List (Int × Int)), zM t = true → wt t < fuel → (c.natAbs + ab m) + τ.natAbs * wt t ≤ 4000000000000000000 → m.length + wt t ≤ 1000000000 →
 ∃ c' m', qdp fuel t τ c m = some (c', m') ∧ c'.natAbs + ab m' ≤ (c.natAbs + ab m) + τ.natAbs * wt t ∧ m'.length ≤ m.length + wt t ∧ ∀ F, c' + evF F m' = c + evF F m + τ * (szT F t : Int)
 | 0, t, _, _, _, h, _, _ => absurd h (vh _)
 | fuel + 1, t, c, m, hfm, hf, hb, hl => by
  have hw := qiI t
  have hm1 : τ.natAbs * wt t = τ.natAbs + τ.natAbs * wtL t.ar := by rw [hw, Nat.mul_add, Nat.mul_one]
  rw [qdp]
  dsimp only
  by_cases h1 : t.k = 1
  have hg := qCe t.i m
  have hp := qCz t.i τ m
  have hlp := qzy t.i ((zt m t.i).getD 0 + τ) m
  rw [show (t.k == (1 : Int)) = true by simpa using h1, cond_true, qgA oa, zax, if_pos oa, ja]
  refine ⟨_, _, rfl, by omega, by omega, fun F => ?_⟩
  rw [qzm, qvz F h1]
  omega
  rw [show (t.k == (1 : Int)) = false by simpa using h1, cond_false, qgA oa]
  have hfl : zL t.ar = true ∧ (t.k ≠ 2 → t.ar = []) := by
   by_cases h2 : t.k = 2
   rw [qnn h2, jj] at hfm
   exact ⟨hfm.2, fun h => absurd h2 h⟩
   have h0 : t.ar.length = 0 := by
    by_cases e : t.k = 0
    rw [qnY e] at hfm
    exact (of_decide_eq_true hfm).2.2.2
    rw [qoP e h1 h2] at hfm
    cases hfm
   have := jA h0
   exact ⟨by rw [this, zL], fun _ => this⟩
  obtain ⟨c', m', e, b1, l1, s1⟩ := quX (fun t' c m a b d e => qwy τ fuel t' c m a b d e) t.ar (c + τ) m hfl.1 oa oa oa
  refine ⟨c', m', e, by omega, by omega, fun F => ?_⟩
  rw [s1]
  by_cases h2 : t.k = 2
  rw [qvM F h2, show ((1 + szL F t.ar : Nat) : Int) = 1 + (szL F t.ar : Int) by omega, Int.mul_add, Int.mul_one]
  omega
  rw [qvK F h1 h2, hfl.2 h2, szL]
  simp
  omega
/-! ### the rank of a name and sizes -/
def dot : List Int → List Nat → Int
 | f :: fs, n :: ns => f * (n : Int) + dot fs ns
 | _, _ => 0
def rkN (ranks : List qh) (s : ByteArray) (ns : List Nat) : Int := (zP ranks s (ns.length : Int)).1.fL + dot (zP ranks s (ns.length : Int)).1.fp ns
theorem qua {n : Int} (h : zbO n = true) : 0 ≤ n ∧ n ≤ 1048576 := of_decide_eq_true h
theorem qtF {r : qh} (h : zR r = true) : (0 ≤ r.fL ∧ r.fL ≤ 1048576) ∧ ∀ f ∈ r.fp, 0 ≤ f ∧ f ≤ 1048576 := by
 unfold zR at h
 simp only [jj, jv] at h
 exact ⟨qua h.1.1, fun f hf => qua (h.2 f hf)⟩
theorem qCC {ranks : List qh} (fuel : Nat) (r : qh × Bool) (hr : ∀ f ∈ r.1.fp, 0 ≤ f ∧ f ≤ 1048576) (times : Int) (ht : times = 1 ∨ times = -1) : ∀ (ts : List T) (i : Nat) (c : Int) (m : List (Int × Int)), zL ts = true → wtL ts < fuel → wtL ts ≤ 1000 → c.natAbs + ab m + 1048576 * wtL ts ≤ 2000000000000000000 → m.length + wtL ts ≤ 1000000000 → (r.1.fp.drop i).length = ts.length →
 ∃ c' m', qcA (fun f_11 mm_12 => some (true, f_11, mm_12)) fuel r times ts i c m = some (true, c', m') ∧ c'.natAbs + ab m' ≤ c.natAbs + ab m + 1048576 * wtL ts ∧ m'.length ≤ m.length + wtL ts ∧ ∀ F, c' + evF F m' = c + evF F m + times * dot (r.1.fp.drop i) (ts.map (szT F))
 | [], i, c, m, _, _, _, _, _, hl => by
  refine ⟨c, m, by rw [qcA], by omega, by omega, fun F => ?_⟩
  rw [jA (l := r.1.fp.drop i) (by simpa using hl), dot]
  simp
  intro f fs n ns h
  cases h
 | t :: ts, i, c, m, hfm, hf, hw, hb, hml, hl => by
  rw [zL, jj] at hfm
  rw [wtL] at hf hw hb hml
  have hi : i < r.1.fp.length := by
   rw [vy, jg] at hl
   omega
  have hd := jY hi
  have hq := hr _ (List.getElem_mem hi)
  have htq : (times * r.1.fp[i]).natAbs ≤ 1048576 := by
   rcases ht with rfl | rfl
   rw [vF]; omega
   rw [Int.neg_mul, vF]; omega
  have hwr : wr (times * r.1.fp[i]) = times * r.1.fp[i] := qgA oa
  have hmul : (times * r.1.fp[i]).natAbs * wt t ≤ 1048576 * wt t := jM _ htq
  rw [Nat.mul_add] at hb
  obtain ⟨c1, m1, e1, b1, l1, s1⟩ := qwy (times * r.1.fp[i]) fuel t c m hfm.1 oa oa oa
  obtain ⟨c2, m2, e2, b2, l2, s2⟩ := qCC (ranks := ranks) fuel r hr times ht ts (i + 1) c1 m1 hfm.2 oa oa oa oa (by rw [vy, jg] at hl; rw [vy]; omega)
  refine ⟨c2, m2, ?_, by rw [wtL, Nat.mul_add]; omega, by rw [wtL]; omega, fun F => ?_⟩
  rw [qcA, qdQ, jq hi, ja, hwr, e1, ja, e2]
  rw [s2, s1, hd, jm, dot, Int.mul_add, Int.mul_assoc]
  omega
theorem qAi (fuel : Nat) (hf : 1048577 ≤ fuel) (ranks : List qh) (a : At) (hb : Bf a) (times : Int) (ht : times = 1 ∨ times = -1) (c : Int) (m : List (Int × Int)) (hcm : c.natAbs + ab m ≤ 1000000000000000000) (hml : m.length ≤ 900000000) :
 ∃ ok c' m', qeq fuel ranks a times c m = some (ok, c', m') ∧ c'.natAbs + ab m' ≤ c.natAbs + ab m + 300000000 ∧ m'.length ≤ m.length + 200 ∧ (ok = true → ∀ F, c' + evF F m' = c + evF F m + times * rkN ranks a.n (a.ts.map (szT F))) := by
 have bad : ∃ ok c' m', some (false, c, m) = some (ok, c', m') ∧ c'.natAbs + ab m' ≤ c.natAbs + ab m + 300000000 ∧ m'.length ≤ m.length + 200 ∧ (ok = true → ∀ F, c' + evF F m' = c + evF F m + times * rkN ranks a.n (a.ts.map (szT F))) := ⟨false, c, m, rfl, by omega, by omega, fun h => by cases h⟩
 have hbw := hb.wt
 rw [qeq, qwb, ja]
 cases h1 : (zP ranks a.n (a.ts.length : Int)).2 with
 | false => exact bad
 | true =>
  rw [jL, cond_false, qwT, ja]
  cases h2 : zR (zP ranks a.n (a.ts.length : Int)).1 with
  | false => exact bad
  | true =>
   rw [jL, cond_false, qh4 a oa, ja]
   cases h3 : zA a with
   | false => exact bad
   | true =>
    rw [jL, cond_false]
    obtain ⟨hfm, hw, _⟩ := qgj h3
    obtain ⟨hc, hfs⟩ := qtF h2
    have hlen := (qsv h1).1
    have hcn : (times * (zP ranks a.n (a.ts.length : Int)).1.fL).natAbs ≤ 1048576 := by
     rcases ht with rfl | rfl
     rw [vF]; omega
     rw [Int.neg_mul, vF]; omega
    rw [qgA (n := times * _) oa, qgA oa]
    obtain ⟨c', m', e, b1, l1, s1⟩ := qCC (ranks := ranks) fuel (zP ranks a.n (a.ts.length : Int)) hfs times ht a.ts 0 (c + times * (zP ranks a.n (a.ts.length : Int)).1.fL) m hfm oa oa oa oa (by rw [vo]; omega)
    refine ⟨true, c', m', e, by omega, by omega, fun _ F => ?_⟩
    rw [s1, vo, rkN, jb, Int.mul_add]
    omega
/-! ### Decreases -/
def zbT (ranks : List qh) (F : Int → Nat) : List At → Int
 | [] => 0
 | a :: l => rkN ranks a.n (a.ts.map (szT F)) + zbT ranks F l
def zbD (ranks : List qh) (F : Int → Nat) : List Gl → Int
 | [] => 0
 | g :: l => (if g.op = 0 then rkN ranks g.n (g.ts.map (szT F)) else 0) + zbD ranks F l
theorem qCE (F : Int → Nat) (h1 : ∀ v, 1 ≤ F v) (ones : List Int) (h2 : ∀ v ∈ ones, F v = 1) : ∀ m : List (Int × Int), m.any (badQ ones) = false → zap m ≤ evF F m
 | [], _ => by rw [zap, evF]; exact jX _
 | q :: m, h => by
  rw [List.any_cons, Bool.or_eq_false_iff] at h
  have ih := qCE F h1 ones h2 m h.2
  rw [zap, evF]
  have : q.2 ≤ q.2 * (F q.1 : Int) := by
   by_cases ho : q.1 ∈ ones
   rw [h2 _ ho]
   simp
   have hq : 0 ≤ q.2 := by
    have := h.1
    unfold badQ at this
    rw [decide_eq_false ho, Bool.not_false, Bool.and_true] at this
    have := dF this
    omega
   have := Int.mul_le_mul_of_nonneg_left (show (1 : Int) ≤ (F q.1 : Int) by have := h1 q.1; omega) hq
   omega
  omega
theorem qzz : ∀ m : List (Int × Int), (zap m).natAbs ≤ ab m
 | [] => by rw [zap, ab]; exact jk _
 | q :: m => by
  have := qzz m
  rw [zap, ab]
  omega
def zaW (ranks : List qh) (r : qr) : Prop := (r.ff = [] → ∀ g ∈ r.fg, g.op ≠ 0) ∧ (r.ff ≠ [] → ∀ F : Int → Nat, (∀ v, 1 ≤ F v) → (∀ v, v ∉ zac r → F v = 1) → 1 ≤ zbT ranks F r.ff - zbD ranks F r.fg)
theorem qyU (fuel : Nat) (hf : 1048577 ≤ fuel) (ranks : List qh) {Q : Bool → Prop} (hQ : Q false) {k : Int → List (Int × Int) → Option Bool} : ∀ (l : List At) (c : Int) (m : List (Int × Int)), (∀ a ∈ l, Bf a) → c.natAbs + ab m + 300000000 * l.length ≤ 100000000000000000 → m.length + 200 * l.length ≤ 1000000 → (∀ c' m', c'.natAbs + ab m' ≤ c.natAbs + ab m + 300000000 * l.length → m'.length ≤ m.length + 200 * l.length → (∀ F, c' + evF F m' = c + evF F m + zbT ranks F l) → Yl (k c' m') Q) → Yl (q9 k fuel ranks l c m) Q
 | [], c, m, _, _, _, hk => by
  rw [q9]
  exact hk c m oa oa fun F => by rw [zbT, vE]
 | a :: l, c, m, hb, hc, hm, hk => by
  rw [jg] at hc hm hk
  obtain ⟨ok, c1, m1, e, b1, l1, s1⟩ := qAi fuel hf ranks a (hb a (jd ..)) 1 (.inl rfl) c m oa oa
  rw [q9, e, ja]
  refine .cond (fun _ => .pure hQ) fun hok => qyU fuel hf ranks hQ l c1 m1 (fun x hx => hb x (jf _ hx)) oa oa fun c2 m2 b2 l2 s2 => hk c2 m2 oa oa fun F => ?_
  rw [s2, s1 (nF hok), zbT, vF]
  omega
theorem qsY (fuel : Nat) (hf : 1048577 ≤ fuel) (ranks : List qh) (rule : qr) (hR : rule.ff ≠ []) (r1 : List (Int × Bool) × List (Int × Bool)) (head ones : List Int) (hh : ∀ v, (zt r1.1 v).getD false = decide (v ∈ head)) (ho : ∀ v, (zt r1.2 v).getD false = decide (v ∈ ones)) {Q : Bool → Prop} (hQ : Q false) {k : Int → List (Int × Int) → Option Bool} : ∀ (l : List Gl) (c : Int) (m : List (Int × Int)), (∀ g ∈ l, Bg g) → c.natAbs + ab m + 300000000 * l.length ≤ 100000000000000000 → m.length + 200 * l.length ≤ 1000000 → (∀ c' m', c'.natAbs + ab m' ≤ c.natAbs + ab m + 300000000 * l.length → m'.length ≤ m.length + 200 * l.length → (∀ F, c' + evF F m' = c + evF F m - zbD ranks F l) → Yl (k c' m') Q) → Yl (qJ k fuel r1 rule ranks l c m) Q
 | [], c, m, _, _, _, hk => by
  rw [qJ]
  exact hk c m oa oa fun F => by rw [zbD, Int.sub_zero]
 | g :: l, c, m, hb, hc, hm, hk => by
  rw [jg] at hc hm hk
  have hbg := hb g (jd ..)
  have hb' := fun x hx => hb x (jf g hx)
  have hlen : 0 < rule.ff.length := vI.2 hR
  rw [qJ]
  refine .cond (fun _ => .pure hQ) fun _ => .cond (fun h0 => .cond (fun hz => absurd (eT hz) oa) fun _ => .cond (fun hn => absurd (eT h0) (bT hn)) fun _ => ?_) fun h0 => .cond (fun _ => ?_) fun hn => absurd (bF hn) (eF h0)
  have h0 := eT h0
  have hBf : Bf ⟨g.n, g.ts⟩ := hbg
  have hw := hBf.wt
  rw [qsO _ oa, ja, qzM _ r1 head ones hh ho]
  split
  obtain ⟨ok, c1, m1, e, b1, l1, s1⟩ := qAi fuel hf ranks ⟨g.n, g.ts⟩ hBf (-1) (.inr rfl) c m oa oa
  rw [e, ja]
  refine .cond (fun _ => .pure hQ) fun hok => qsY fuel hf ranks rule hR r1 head ones hh ho hQ l c1 m1 hb' oa oa fun c2 m2 b2 l2 s2 => hk c2 m2 oa oa fun F => ?_
  have s3 := s1 (nF hok) F
  rw [Int.neg_mul, vF] at s3
  dsimp only at s3
  rw [s2, s3, zbD, if_pos h0]
  omega
  exact .pure hQ
  refine qsY fuel hf ranks rule hR r1 head ones hh ho hQ l c m hb' oa oa fun c2 m2 b2 l2 s2 => hk c2 m2 oa oa fun F => ?_
  rw [s2, zbD, if_neg (eF h0)]
  omega
theorem qAC {head : List Int} {v : Int} : ∀ {l : List Gl}, v ∈ y5 head l → v ∉ head := by
 intro l h
 unfold y5 at h
 obtain ⟨g, _, hg⟩ := Jb.1 h
 unfold zaB at hg
 split at hg
 split at hg
 split at hg
 rename_i h1
 rw [jn.1 hg]
 exact h1.2
 cases hg
 cases hg
 cases hg
theorem qDl (fuel : Nat) (hf : 1048577 ≤ fuel) (ranks : List qh) (r : qr) (h : Br r) : Yl (qeN fuel ranks r) fun b => b = true → zaW ranks r := by
 obtain ⟨r1, e, hh, ho⟩ := quR r h
 have hlr := h.lr
 have hlb := h.lb
 unfold qeN
 rw [e, ja]
 by_cases hR : r.ff = []
 rw [hR, q9, qu4 fuel ranks r hR r1]
 split
 exact .pure fun h => by cases h
 rename_i hn
 have fin : zaW ranks r := ⟨fun _ g hg h0 => hn (vg.2 ⟨g, hg, by simp [h0]⟩), fun h => absurd hR h⟩
 refine ⟨true, quf _ r1 (y5 (zac r) r.fg) ho [] 0 (qgA oa) true ?_, fun _ => fin⟩
 simp [zap]
 refine qyU fuel hf ranks (fun h => by cases h) _ 0 [] h.br (by simp [ab]; omega) oe fun c m b1 l1 s1 => qsY fuel hf ranks r hR r1 (zac r) _ hh ho (fun h => by cases h) _ c m h.bb (by simp [ab] at b1; omega) (by simp at l1; omega) fun c2 m2 b2 l2 s2 => ?_
 have hv := qzz m2
 simp only [ab, Int.natAbs_zero, ju] at b1
 have hwc : wr c2 = c2 := qgA oa
 have hws : wr (c2 + zap m2) = c2 + zap m2 := qgA oa
 by_cases hbad : m2.any (badQ (y5 (zac r) r.fg)) = true
 exact ⟨false, quf _ r1 _ ho m2 c2 hwc false (by rw [if_pos hbad]), fun h => by cases h⟩
 by_cases hge : c2 + zap m2 ≥ 1
 refine ⟨true, quf _ r1 _ ho m2 c2 hwc true (by rw [if_neg hbad, hws, decide_eq_true hge, cond_true]), fun _ => ⟨fun h => absurd h hR, fun _ F hF1 hF2 => ?_⟩⟩
 have hlow := qCE F hF1 (y5 (zac r) r.fg) (fun v hv => hF2 v (qAC hv)) m2 (by simpa using hbad)
 have e1 := s1 F
 have e2 := s2 F
 rw [evF] at e1
 omega
 have hl0 : 0 < r.ff.length := vI.2 hR
 refine ⟨false, quf _ r1 _ ho m2 c2 hwc false (by rw [if_neg hbad, hws, decide_eq_false hge, cond_false, uF (show (r.ff.length : Int) ≠ 0 by omega)]), fun h => by cases h⟩
def zcb : List Nat → Nat
 | [] => 0
 | n :: l => n + zcb l
theorem quA : ∀ l : List T, zcb (l.map zp) = zq l
 | [] => rfl
 | t :: l => by rw [jm, zcb, quA l, zq]
theorem qCI : ∀ (fs : List Int) (ns : List Nat), (∀ f ∈ fs, 0 ≤ f ∧ f ≤ 1048576) → 0 ≤ dot fs ns ∧ dot fs ns ≤ 1048576 * (zcb ns : Int)
 | [], ns, _ => by
  have : dot [] ns = 0 := by cases ns <;> rfl
  omega
 | f :: fs, [], _ => by simp [dot, zcb]
 | f :: fs, n :: ns, h => by
  have h1 := h f (jd ..)
  have h2 := qCI fs ns fun x hx => h x (jf _ hx)
  rw [dot, zcb]
  have h3 : 0 ≤ f * (n : Int) := Int.mul_nonneg h1.1 oa
  have h4 : f * (n : Int) ≤ 1048576 * (n : Int) := Int.mul_le_mul_of_nonneg_right h1.2 oa
  omega
theorem qpk (ranks : List qh) (s : ByteArray) (n : Int) : ((zP ranks s n).2 = true ∧ ((zP ranks s n).1.fp.length : Int) = n ∧ (zP ranks s n).1 ∈ ranks) ∨ (zP ranks s n) = (⟨⟨#[]⟩, 0, []⟩, false) := by
 cases h : (zP ranks s n).2 with
 | true => exact .inl ⟨rfl, qsv h⟩
 | false =>
  refine .inr ?_
  unfold zP at h ⊢
  split
  rename_i e
  rw [e] at h
  cases h
  rfl
theorem qz7 {ranks : List qh} (hv : ranks.all zR = true) (s : ByteArray) (ns : List Nat) : 0 ≤ rkN ranks s ns ∧ rkN ranks s ns ≤ 1048576 + 1048576 * (zcb ns : Int) := by
 unfold rkN
 rcases qpk ranks s (ns.length : Int) with ⟨_, _, hm⟩ | h
 obtain ⟨h1, h2⟩ := qtF (jv.1 hv _ hm)
 have := qCI _ ns h2
 omega
 rw [h]
 have : dot [] ns = 0 := by cases ns <;> rfl
 dsimp only
 omega
theorem qwf : ∀ (fs : List Int) (ts : List T) (n : Int), (∀ f ∈ fs, 0 ≤ f ∧ f ≤ 1048576) → 0 ≤ n → n + 1048576 * (zq ts : Int) ≤ 1000000000000000 → zbt fs ts n = n + dot fs (ts.map zp)
 | [], ts, n, _, _, _ => by
  have : dot [] (ts.map zp) = 0 := by cases ts <;> rfl
  rw [this, vE]
  cases ts <;> rfl
 | f :: fs, [], n, _, _, _ => by simp [zbt, dot]
 | f :: fs, t :: ts, n, h, h0, hb => by
  have h1 := h f (jd ..)
  rw [zq] at hb
  have h3 : 0 ≤ f * (zp t : Int) := Int.mul_nonneg h1.1 oa
  have h4 : f * (zp t : Int) ≤ 1048576 * (zp t : Int) := Int.mul_le_mul_of_nonneg_right h1.2 oa
  rw [zbt, qgA (n := f * _) oa, qgA oa, qwf fs ts _ (fun x hx => h x (jf _ hx)) oa oa, jm, dot]
  omega
theorem qx0 {ranks : List qh} (hv : ranks.all zR = true) (s : ByteArray) (ts : List T) (hw : wtL ts ≤ 200) : qdt ranks s ts = some (rkN ranks s (ts.map zp)) := by
 have hsw := qnx ts
 unfold rkN
 rw [jb]
 rcases qpk ranks s (ts.length : Int) with ⟨h2, h3, hm⟩ | h
 obtain ⟨g1, g2⟩ := qtF (jv.1 hv _ hm)
 rw [qdt, qoT, ja, qxC _ ts _ _ 0 (fun t ht => by have := qgo ht; omega) (by rw [vo]; omega), vo, qwf _ ts _ g2 g1.1 oa]
 rw [qdt, qoT, ja, h]
 dsimp only
 rw [qaN]
 have : dot [] (ts.map zp) = 0 := by cases ts <;> rfl
 rw [this]
 rfl
/-! ### the measure of a state -/
def yY (ranks : List qh) : List (Int × At) → Int
 | [] => 0
 | q :: l => rkN ranks q.2.n (q.2.ts.map zp) + yY ranks l
def yw (ranks : List qh) : List Gl → Int
 | [] => 0
 | g :: l => (if g.op = 0 then rkN ranks g.n (g.ts.map zp) else 0) + yw ranks l
theorem qxu {ranks : List qh} (hv : ranks.all zR = true) (s : ByteArray) {ts : List T} (hw : wtL ts ≤ 200) : 0 ≤ rkN ranks s (ts.map zp) ∧ rkN ranks s (ts.map zp) ≤ 300000000 := by
 have := qz7 hv s (ts.map zp)
 rw [quA] at this
 have := qnx ts
 omega
theorem qzk {ranks : List qh} (hv : ranks.all zR = true) : ∀ l : List Gl, (∀ g ∈ l, wtL g.ts ≤ 200) → 0 ≤ yw ranks l ∧ yw ranks l ≤ 300000000 * (l.length : Int)
 | [], _ => by simp [yw]
 | g :: l, h => by
  have h1 := qxu hv g.n (h g (jd ..))
  have h2 := qzk hv l fun x hx => h x (jf _ hx)
  rw [yw, jg]
  split <;> omega
theorem qwW (ranks : List qh) : ∀ a b : List (Int × At), yY ranks (a ++ b) = yY ranks a + yY ranks b
 | [], b => by rw [jo, yY, Int.zero_add]
 | q :: a, b => by rw [jB, yY, yY, qwW ranks a b]; omega
theorem qpD (ranks : List qh) : ∀ a b : List Gl, yw ranks (a ++ b) = yw ranks a + yw ranks b
 | [], b => by rw [jo, yw, Int.zero_add]
 | g :: a, b => by rw [jB, yw, yw, qpD ranks a b]; omega
/-! ### how a step changes it -/
theorem qy4 {b c : En} (hc : Gud b c) : ∀ l : List T, (∀ v ∈ zu l, zt b v = none) → (apL c l).map zp = l.map zp
 | [], _ => rfl
 | t :: l, h => by
  rw [apL, jm, jm, qy4 hc l fun v hv => h v (by rw [zu]; exact jz _ hv), qAO, ← qCd t]
  congr 1
  refine qsU t fun v hv => ?_
  exact hc.z v (h v (by rw [zu]; exact jr _ hv))
theorem qxq (ranks : List qh) {b c : En} (hc : Gud b c) : ∀ l : List (Int × At), (∀ q ∈ l, ∀ v ∈ zu q.2.ts, zt b v = none) → yY ranks (l.map (apI c)) = yY ranks l
 | [], _ => rfl
 | q :: l, h => by
  rw [jm, yY, yY, qxq ranks hc l fun x hx => h x (jf _ hx)]
  show rkN ranks q.2.n ((apL c q.2.ts).map zp) + _ = _
  rw [qy4 hc _ (h q (jd ..))]
theorem qwj (ranks : List qh) {b c : En} (hc : Gud b c) : ∀ l : List Gl, (∀ g ∈ l, ∀ v ∈ zu g.ts, zt b v = none) → yw ranks (l.map (apG c)) = yw ranks l
 | [], _ => rfl
 | g :: l, h => by
  rw [jm, yw, yw, qwj ranks hc l fun x hx => h x (jf _ hx)]
  show (if g.op = 0 then rkN ranks g.n ((apL c g.ts).map zp) else 0) + _ = _
  rw [qy4 hc _ (h g (jd ..))]
theorem qqc (ranks : List qh) : ∀ (l : List (Int × At)) (x : Int) (a : At), (l.Pairwise fun q r => q.1 < r.1) → (x, a) ∈ l → yY ranks l = yY ranks (l.filter fun q => decide (q.1 ≠ x)) + rkN ranks a.n (a.ts.map zp)
 | q :: l, x, a, hp, h => by
  obtain ⟨h1, h2⟩ := Jh.1 hp
  rcases jh.1 h with e | h
  subst e
  rw [vv, if_neg og, qpO fun r hr => by have := h1 r hr; dsimp only at this; omega, yY]
  dsimp only
  omega
  have := h1 (x, a) h
  dsimp only at this
  rw [vv, if_pos oe, yY, yY, qqc ranks l x a h2 h]
  omega
theorem qzg (ranks : List qh) (env : En) : ∀ (R : List At) (xs : List Int) (l : List (Int × At)), (l.Pairwise fun q r => q.1 < r.1) → xs.Nodup → hm l env R xs → yY ranks l = yY ranks (yy l xs) + zbT ranks (gz (zt env)) R
 | [], [], l, _, _, _ => by rw [yy, zbT, vE]
 | h :: R, x :: xs, l, hp, hn, ⟨⟨a, h1, h2, h3, h4⟩, h5⟩ => by
  obtain ⟨n1, n2⟩ := jP.1 hn
  have keep : ∀ (R : List At) (ys : List Int), x ∉ ys → hm l env R ys → hm (l.filter fun q => decide (q.1 ≠ x)) env R ys := fun R => by
   induction R with
   | nil =>
    intro ys _ h
    cases ys with
    | nil => trivial
    | cons y ys => exact h.elim
   | cons r R ih =>
    intro ys hx h
    cases ys with
    | nil => exact h.elim
    | cons y ys =>
     obtain ⟨⟨a', k1, k2⟩, k3⟩ := h
     exact ⟨⟨a', vl.2 ⟨k1, by simp only [decide_eq_true_eq]; exact fun e => hx (by rw [← e]; exact jd ..)⟩, k2⟩, ih ys (fun h => hx (jf _ h)) k3⟩
  rw [qqc ranks l x a hp h1, yy, zbT, qzg ranks env R xs _ (hp.filter _) n2 (keep R xs n1 h5), h2, h3]
  omega
 | [], _ :: _, _, _, _, h => h.elim
 | _ :: _, [], _, _, _, h => h.elim
theorem qzS {l : List (Int × At)} {env : En} : ∀ (K R : List At) (ids : List Int), hm l env (K ++ R) ids → hm l env R (ids.drop K.length)
 | [], R, ids, h => by rw [jV, vo]; exact h
 | k :: K, R, i :: ids, h => by
  rw [jg, vP]
  exact qzS K R ids h.2
 | k :: K, R, [], h => h.elim
theorem qC3 (env : En) (fresh v : Int) : zp (ef env fresh v) = gz (zt env) v := by
 unfold ef gz
 cases zt env v with
 | none => exact qjL (by simp [T.k])
 | some u => rfl
theorem qCh (env : En) (fresh : Int) : ∀ l : List T, (inL (ef env fresh) l).map zp = l.map (szT (gz (zt env)))
 | [] => rfl
 | t :: l => by
  rw [inL, jm, jm, qCh env fresh l, qzC, show (fun v => zp (ef env fresh v)) = gz (zt env) from funext (qC3 env fresh)]
theorem qvX (ranks : List qh) (env : En) (fresh : Int) : ∀ l : List Gl, yw ranks (l.map (inG (ef env fresh))) = zbD ranks (gz (zt env)) l
 | [] => rfl
 | g :: l => by
  rw [jm, yw, zbD, qvX ranks env fresh l]
  show (if g.op = 0 then rkN ranks g.n ((inL (ef env fresh) g.ts).map zp) else 0) + _ = _
  rw [qCh]
theorem qAE {r : qr} {h : At} (hm : h ∈ r.fi ++ r.ff) {v : Int} (hv : v ∈ zu h.ts) : v ∈ zac r := by
 unfold zac
 rw [jl, Jb, Jb]
 have hb : v ∈ zaT h := qjM.2 (.inr hv)
 rcases jl.1 hm with hm | hm
 exact .inl ⟨h, hm, hb⟩
 exact .inr ⟨h, hm, hb⟩
theorem qD8 (g : Int → Option T) (v : Int) : 1 ≤ gz g v := by
 unfold gz
 cases g v with
 | none => exact jk _
 | some u => exact qpL u
theorem qCS {ranks : List qh} {r : qr} (hd : zaW ranks r) {l : List (Int × At)} (hp : l.Pairwise fun q r => q.1 < r.1) {ids : List Int} {env : En} (he : zan l r ids env) (fresh : Int) :
 (r.ff = [] → yy l (ids.drop r.fi.length) = l ∧ yw ranks (r.fg.map (inG (ef env fresh))) = 0) ∧ (r.ff ≠ [] → yY ranks (yy l (ids.drop r.fi.length)) + yw ranks (r.fg.map (inG (ef env fresh))) < yY ranks l) := by
 refine ⟨fun h => ⟨?_, ?_⟩, fun h => ?_⟩
 · have := he.len
   rw [h, js] at this
   rw [Ja oa, yy]
 · rw [qvX]
   have hb := hd.1 h
   have : ∀ l : List Gl, (∀ g ∈ l, g.op ≠ 0) → zbD ranks (gz (zt env)) l = 0 := fun l => by
    induction l with
    | nil => intro _; rfl
    | cons g l ih =>
     intro hl
     rw [zbD, if_neg (hl g (jd ..)), ih fun x hx => hl x (jf _ hx)]
     rfl
   exact this _ hb
 · have h1 := hd.2 h (gz (zt env)) (qD8 _) fun v hv => by
    unfold gz
    cases hg : zt env v with
    | none => rfl
    | some u =>
     obtain ⟨a, ha, ho⟩ := he.dom v (by rw [hg]; simp)
     exact absurd (qAE ha ho) hv
   have h2 := qzg ranks env r.ff (ids.drop r.fi.length) l hp (he.nd.sublist (List.drop_sublist _ _)) (qzS _ _ _ he.fit)
   rw [qvX]
   omega
/-! ### small programs and states -/
theorem qyL {k : Option Bool} (hk : Yl k fun _ => True) : ∀ (l : List T) (n : Int), (∀ t ∈ l, wt t ≤ 1000000000) → Yl (qb3 k l n) fun _ => True
 | [], n, _ => by rw [qb3]; exact hk
 | t :: l, n, h => by
  rw [qb3, qsB t (h t (jd ..)), ja]
  exact .cond (fun _ => .pure trivial) fun _ => qyL hk l _ fun x hx => h x (jf _ hx)
theorem qzo (l : List T) (h : ∀ t ∈ l, wt t ≤ 1000000000) : Yl (qek l) fun _ => True := by
 unfold qek
 exact .cond (fun _ => .pure trivial) fun _ => qyL (.pure trivial) l 0 h
theorem qwK {l : List T} (h : wtL l ≤ 1000000000) : ∀ t ∈ l, wt t ≤ 1000000000 := fun t ht => by have := qgo ht; omega
theorem qsD (l : List At) (h : ∀ a ∈ l, wtL a.ts ≤ 1000000000) : Yl (qdV l) fun _ => True := by
 unfold qdV
 induction l with
 | nil => rw [qco]; exact .pure trivial
 | cons a l ih =>
  rw [qco]
  exact .bind (qzo _ (qwK (h a (jd ..)))) fun _ _ => .cond (fun _ => .pure trivial) fun _ => ih fun x hx => h x (jf _ hx)
theorem qoI (l : List Gl) (n : Int) (h : ∀ a ∈ l, wtL a.ts ≤ 1000000000) : Yl (qdi l n) fun b => b = true → (l.length : Int) ≤ n := by
 unfold qdi
 refine .cond (fun _ => .pure fun h => by cases h) fun hl => ?_
 have hl := dF hl
 have main : ∀ m : List Gl, (∀ a ∈ m, wtL a.ts ≤ 1000000000) → Yl (qbH (some true) m) fun _ => True := fun m => by
  induction m with
  | nil => intro _; rw [qbH]; exact .pure trivial
  | cons a m ih =>
   intro h
   rw [qbH]
   exact .bind (qzo _ (qwK (h a (jd ..)))) fun _ _ => .cond (fun _ => .pure trivial) fun _ => ih fun x hx => h x (jf _ hx)
 exact (main l h).mono fun _ _ _ => by omega
structure RSm (r : qr) : Prop where
 lk : r.fi.length ≤ 3
 lr : r.ff.length ≤ 3
 lg : r.fy.length ≤ 6
 lb : r.fg.length ≤ 6
theorem qxE : ∀ l : List qr, (∀ r ∈ l, BkR r) → Yl (qa0 (some true) l) fun b => b = true → ∀ r ∈ l, RSm r
 | [], _ => by rw [qa0]; exact .pure fun _ r h => by cases h
 | r :: l, h => by
  have hr := h r (jd ..)
  rw [qa0]
  refine .cond (fun _ => .pure fun h => by cases h) fun h1 => .cond (fun _ => .pure fun h => by cases h) fun h2 => .cond (fun _ => .pure fun h => by cases h) fun _ => .cond (fun _ => .pure fun h => by cases h) fun h4 => .cond (fun _ => .pure fun h => by cases h) fun h5 => ?_
  have h1 := dF h1
  have h2 := dF h2
  have h4 := dF h4
  have h5 := dF h5
  refine .bind (qsD _ fun a ha => hr.a a (jr _ ha)) fun _ _ => .cond (fun _ => .pure fun h => by cases h) fun _ => .bind (qsD _ fun a ha => hr.a a (jz _ ha)) fun _ _ => .cond (fun _ => .pure fun h => by cases h) fun _ => .bind (qoI _ 6 fun a ha => hr.g a (jr _ ha)) fun _ _ => .cond (fun _ => .pure fun h => by cases h) fun _ => .bind (qoI _ 6 fun a ha => hr.g a (jz _ ha)) fun _ _ => .cond (fun _ => .pure fun h => by cases h) fun _ => (qxE l fun x hx => h x (jf _ hx)).mono fun b hb hbt x hx => ?_
  rcases jh.1 hx with rfl | hx
  exact ⟨by omega, by omega, by omega, by omega⟩
  exact hb hbt x hx
/-! ### the check of the ranks -/
theorem qzA (fuel : Nat) (hf : 1048577 ≤ fuel) (p : qc) (ranks : List qh) (h : ∀ r ∈ p.fd, Br r) : Yl (qg4 fuel p ranks) fun e => e = 0 → ranks.all zR = true ∧ ∀ r ∈ p.fd, zaW ranks r := by
 unfold qg4
 rw [qwM, ja]
 refine .cond (fun _ => .pure fun h => absurd h (show ¬ (2 : Int) = 0 by omega)) fun hv => ?_
 have l1 : ∀ l : List qr, (∀ r ∈ l, Br r) → Yl (qbW (some 0) fuel ranks l) fun e => e = 0 → ∀ r ∈ l, zaW ranks r := fun l => by
  induction l with
  | nil => intro _; rw [qbW]; exact .pure fun _ r h => by cases h
  | cons r l ih =>
   intro hb
   rw [qbW]
   refine .bind (qDl fuel hf ranks r (hb r (jd ..))) fun b hd => .cond (fun _ => .pure fun h => absurd h (show ¬ (19 : Int) = 0 by omega)) fun h1 => (ih fun x hx => hb x (jf _ hx)).mono fun e he h0 x hx => ?_
   rcases jh.1 hx with rfl | hx
   exact hd (nF h1)
   exact he h0 x hx
 have l0 : ∀ l : List qB, Yl (qbc (qbW (some 0) fuel ranks p.fd) ranks l) fun e => e = 0 → ∀ r ∈ p.fd, zaW ranks r := fun l => by
  induction l with
  | nil => rw [qbc]; exact l1 _ h
  | cons d l ih =>
   rw [qbc, qwb, ja]
   exact .cond (fun _ => .pure fun h => absurd h (show ¬ (13 : Int) = 0 by omega)) fun _ => ih
 exact (l0 _).mono fun e he h0 => ⟨nF hv, he h0⟩
/-! ### the law -/
theorem qBs {α : Type} (p : List α) (d : α) (z : List α) : zi (p ++ d :: z) ((p.length : Nat) : Int) = some d := by
 rw [qdQ]; simp
theorem qDN {α : Type} {l : List α} {m : Nat} (h : l.length = m + 1) : ∃ p d, l = p ++ [d] ∧ p.length = m := by
 have hn : l ≠ [] := by intro e; rw [e] at h; simp at h
 exact ⟨l.dropLast, l.getLast hn, (Jn hn).symm, by simp [h]⟩
/-! ### the next digits -/
def nxt (most : Int) : List Int → Option (List Int)
 | [] => none
 | d :: l => match nxt most l with
  | some r => some (d :: r)
  | none => if d < most then some (wr (d + 1) :: List.replicate l.length 0) else none
def badD (most : Int) (l : List Int) : Bool := l.any fun n => decide (n < 0) || decide (n > most)
def zbZ (most : Int) (l : List Int) : List Int × Bool := if badD most l = true then ([], false) else match nxt most l with
 | some r => (r, true)
 | none => ([], false)
theorem qwJ (most : Int) : ∀ (l : List Int) (d : Int), nxt most (l ++ [d]) = if d < most then some (l ++ [wr (d + 1)]) else (nxt most l).map (· ++ [0])
 | [], d => by simp [nxt]
 | e :: l, d => by
  simp only [jB, nxt, qwJ most l d]
  by_cases h : d < most
  simp [h]
  simp only [if_neg h]
  cases nxt most l with
  | some r => rfl
  | none => by_cases h2 : e < most <;> simp [h2, List.replicate_succ']
theorem qxy (most : Int) (k : Option (List Int × Bool)) : ∀ (m : Nat) (p : List Int) (z : Nat), p.length = m → qdf k most m (p ++ List.replicate z 0) = (match nxt most p with
 | some r => some (r ++ List.replicate z 0, true)
 | none => k)
 | 0, p, z, h => by
  obtain rfl := List.length_eq_zero_iff.1 h
  rw [qdf, nxt]
 | m + 1, p, z, h => by
  obtain ⟨p, d, rfl, hp⟩ := qDN h
  subst hp
  rw [qdf, ji, vz, qBs, qwJ]
  simp only [ja, vC]
  have hs : ∀ x, (p ++ d :: List.replicate z 0).set p.length x = p ++ x :: List.replicate z 0 := fun x => by simp [List.set_append]
  rw [hs, hs]
  by_cases hd : d < most
  simp [hd]
  rw [decide_eq_false hd, if_neg hd]
  have ih := qxy most k p.length p (z + 1) rfl
  rw [vD] at ih
  simp only [cond_false, ih]
  cases nxt most p with
  | some r => simp [vD]
  | none => rfl
theorem qAQ (most : Int) : ∀ (l : List Int) (i : Nat), (badD most l = false ∧ qbE (some (-1)) most l i = some (-1)) ∨ (badD most l = true ∧ ∃ j : Nat, qbE (some (-1)) most l i = some (j : Int))
 | [], i => .inl ⟨rfl, by rw [qbE]⟩
 | d :: l, i => by
  have e1 : qfY d most = some (decide (d < 0) || decide (d > most)) := by
   rw [qfY]
   cases decide (d < 0) <;> rfl
  rw [qbE, e1]
  simp only [ja, badD, List.any_cons]
  cases (decide (d < 0) || decide (d > most)) with
  | true => exact .inr ⟨rfl, i, rfl⟩
  | false => exact qAQ most l (i + 1)
theorem pNext (most : Int) (l : List Int) (hl : l.length ≤ 1000000) : qeR l most = some (zbZ most l) := by
 rw [qeR, qft, qf2, zbZ]
 rcases qAQ most l 0 with ⟨h1, h2⟩ | ⟨h1, j, h2⟩
 rw [h2, h1, qk5 oe oe]
 simp only [ja, jo]
 have hd : zab (wr ((l.length : Int) - 1)) = some l.length := by
  rw [qgA oa, zab, if_pos oa]
  congr 1; omega
 have h3 := qxy most (some ([], false)) l.length l 0 rfl
 rw [List.replicate_zero, js] at h3
 rw [hd]
 simp only [ja, h3]
 cases nxt most l <;> simp
 rw [h2, h1]
 simp only [ja, if_true]
 rw [decide_eq_true (show (j : Int) ≥ 0 by omega)]
 rfl
/-! ### rankings of digits -/
def zaO : List Int → Int × List Int
 | [] => (0, [])
 | d :: r => (d, r)
theorem qyQ (l : List Int) : qem l = some (zaO l) := by
 rw [qem]
 cases l with
 | nil => rfl
 | cons d r =>
  have h0 : (((d :: r).length : Int) == 0) = false := by simp; omega
  rw [h0, cond_false, show zi (d :: r) 0 = some d from rfl, zZ, if_pos oe]
  simp [zaO]
def zbU : Nat → List Int → List Int × List Int
 | 0, l => ([], l)
 | n + 1, l => ((zaO l).1 :: (zbU n (zaO l).2).1, (zbU n (zaO l).2).2)
def arN (d : qB) : Nat := ((zX (yd d.fI 0) 6) - 0).toNat
theorem qEK (d : qB) : arN d ≤ 6 := by unfold arN; rw [qkL, qpR]; omega
def rkS : List qB → List Int → List qh
 | [], _ => []
 | d :: ds, l => ⟨d.fA, (zaO l).1, (zbU (arN d) (zaO l).2).1⟩ :: rkS ds (zbU (arN d) (zaO l).2).2
theorem qve (k : List Int → ByteArray → Int → List Int → Option (List qh)) (s : ByteArray) (c : Int) : ∀ (n : Nat) (l x : List Int), x.length + n ≤ 1000000 → qcV k n l s c x = k (zbU n l).2 s c (x ++ (zbU n l).1)
 | 0, l, x, _ => by rw [qcV]; simp [zbU]
 | n + 1, l, x, h => by
  rw [qcV, qyQ]
  simp only [ja]
  rw [qk5 oe oe]
  simp only [ja]
  rw [qve k s c n _ _ oe]
  simp [zbU]
theorem qu6 (k : List qh → Option (List qh)) : ∀ (ds : List qB) (out : List qh) (l : List Int), out.length + ds.length ≤ 1000000 → qcZ k ds out l = k (out ++ rkS ds l)
 | [], out, l, _ => by rw [qcZ]; simp [rkS]
 | d :: ds, out, l, h => by
  simp only [jg] at h
  rw [qcZ, qyQ]
  simp only [ja]
  have h6 := qEK d
  rw [show ((zX (yd d.fI 0) 6) - 0).toNat = arN d from rfl, qve _ _ _ _ _ _ oe]
  rw [qk5 oe oe]
  simp only [ja, jo]
  rw [qu6 k ds _ _ oe]
  simp [rkS]
theorem pRanks (ds : List qB) (l : List Int) (h : ds.length ≤ 1000000) : qe9 ds l = some (rkS ds l) := by
 rw [qe9, qu6 _ _ _ _ (by simpa using h)]; rfl
/-! ### equality -/
/-! ### all lists of digits -/
def za0 (B : Nat) : List Int → Nat
 | [] => 0
 | d :: l => d.toNat * B ^ l.length + za0 B l
def inR (most : Int) (l : List Int) : Prop := ∀ d ∈ l, 0 ≤ d ∧ d ≤ most
theorem qDq {most : Int} {l : List Int} (h : inR most l) : badD most l = false := by
 rw [badD, List.any_eq_false]
 intro d hd
 have := h d hd
 simp; omega
theorem qqp (B : Nat) : ∀ n, za0 B (List.replicate n 0) = 0
 | 0 => rfl
 | n + 1 => by simp [vD, za0, qqp B n]
theorem qw6 {most : Int} (h : 0 ≤ most) (n : Nat) : inR most (List.replicate n 0) := fun d hd => by
 have := (List.mem_replicate.1 hd).2
 omega
theorem qy2 {most : Int} (h0 : 0 ≤ most) (h1 : most ≤ 1000) : ∀ l : List Int, inR most l → (nxt most l = none ∧ za0 (most.toNat + 1) l + 1 = (most.toNat + 1) ^ l.length) ∨ ∃ r, nxt most l = some r ∧ r.length = l.length ∧ inR most r ∧ za0 (most.toNat + 1) r = za0 (most.toNat + 1) l + 1
 | [], _ => .inl ⟨rfl, by simp [za0]⟩
 | d :: l, h => by
  have hd := h d (jd ..)
  have hl : inR most l := fun x hx => h x (jf _ hx)
  rcases qy2 h0 h1 l hl with ⟨e1, e2⟩ | ⟨r, e1, e2, e3, e4⟩
  by_cases hm : d < most
  refine .inr ⟨wr (d + 1) :: List.replicate l.length 0, by simp [nxt, e1, hm], by simp, ?_, ?_⟩
  intro x hx
  rcases jh.1 hx with rfl | hx
  rw [qgA oa]; omega
  exact qw6 h0 _ x hx
  rw [qgA oa]
  simp only [za0, List.length_replicate, qqp]
  rw [show (d + 1).toNat = d.toNat + 1 by omega, Nat.succ_mul]
  omega
  refine .inl ⟨by simp [nxt, e1, hm], ?_⟩
  have : d.toNat = most.toNat := by omega
  simp only [za0, jg, this, Nat.pow_succ]
  rw [jJ, e2, Nat.mul_comm, ← Nat.mul_succ]
  refine .inr ⟨d :: r, by simp [nxt, e1], by simp [e2], ?_, ?_⟩
  intro x hx
  rcases jh.1 hx with rfl | hx
  exact hd
  exact e3 x hx
  simp only [za0, e2, e4]; omega
theorem qDS {α : Type} {l : List α} (h0 : (l.length : Int) ≠ 0) (hl : l.length ≤ 1000000000) : ∃ pre f, l = pre ++ [f] ∧ zi l (wr ((l.length : Int) - 1)) = some f ∧ zZ l 0 (wr ((l.length : Int) - 1)) = some pre := by
 have hd : l ≠ [] := fun e => h0 (by rw [e]; rfl)
 have hp := vI.2 hd
 refine ⟨l.dropLast, l.getLast hd, (Jn hd).symm, ?_, ?_⟩
 rw [qgA oa, show (l.length : Int) - 1 = ((l.length - 1 : Nat) : Int) by omega, qdQ, List.getLast_eq_getElem]
 exact jq _
 rw [qgA oa]
 unfold zZ
 rw [if_pos oa, show ((l.length : Int) - 1).toNat = l.length - 1 by omega, List.dropLast_eq_take]
 rfl
theorem qpC {n : Nat} (h : n ≤ 1000000000) : zab (wr ((n : Int) - 1)) = some n := by
 rw [qgA oa]
 unfold zab
 rw [if_pos oa, show ((n : Int) - 1 + 1).toNat = n by omega]
/-! ### layer 16 -/
def zbK (i : Nat) (r : qr) : Nat → List qao
 | 0 => []
 | k + 1 => ⟨(i : Int), (k : Int), decide ((k : Int) < (r.fi.length : Int))⟩ :: zbK i r k
def zaw : List qr → Nat → List qao
 | [], _ => []
 | r :: rs, i => zbK i r (r.fi.length + r.ff.length) ++ zaw rs (i + 1)
theorem qtD (i : Nat) (r : qr) : ∀ k, (zbK i r k).length = k
 | 0 => rfl
 | k + 1 => by rw [zbK, jg, qtD i r k]
theorem qCt (k : List qao → Option (List qao)) (i : Nat) (r : qr) : ∀ (n : Nat) (out : List qao), out.length + n ≤ 1000000000 → qci k i r n out = k (out ++ zbK i r n)
 | 0, out, _ => by rw [qci, zbK, js]
 | n + 1, out, h => by
  rw [qci, qf9 oa (n := n) oa, ja, qCt k i r n _ (by rw [je, jp]; omega), zbK, ji]
  rfl
theorem qCw (k : List qao → Option (List qao)) : ∀ (rs : List qr) (out : List qao) (i : Nat), (∀ r ∈ rs, yW r) → out.length + 4 * rs.length ≤ 1000000000 → qcd k rs out i = k (out ++ zaw rs i)
 | [], out, i, _, _ => by rw [qcd, zaw, js]
 | r :: rs, out, i, hr, h => by
  rw [jg] at h
  have h4 := (hr r (jd ..)).h4
  rw [je] at h4
  have hl := qtD i r (r.fi.length + r.ff.length)
  rw [qcd, qgA (n := (r.fi.length : Int) + r.ff.length) oa, show (r.fi.length : Int) + (r.ff.length : Int) = ((r.fi.length + r.ff.length : Nat) : Int) by omega, qpC oa, ja, qCt _ i r _ out oa, qCw k rs _ (i + 1) (fun x hx => hr x (jf _ hx)) (by rw [je]; omega), zaw, ji]
theorem qCL {p : qc} (hp : yC p) : qeu p = some (zaw p.fd 0) := by
 have := hp.l
 unfold qeu
 rw [qCw _ _ [] 0 hp.r oe, jo]
def zaZ (p : qc) (o : qao) (r : qr) (h : At) : Prop := zi p.fd o.fC = some r ∧ zi (r.fi ++ r.ff) o.fK = some h ∧ o.fM = decide (o.fK < (r.fi.length : Int))
theorem qyE (i : Nat) (r : qr) : ∀ (k : Nat), k ≤ r.fi.length + r.ff.length → ∀ o ∈ zbK i r k, o.fC = (i : Int) ∧ (∃ h, zi (r.fi ++ r.ff) o.fK = some h) ∧ o.fM = decide (o.fK < (r.fi.length : Int))
 | 0, _, o, ho => by cases ho
 | k + 1, hk, o, ho => by
  rw [zbK] at ho
  rcases jh.1 ho with rfl | ho
  obtain ⟨h, hh, _⟩ := yo (l := r.fi ++ r.ff) (i := (k : Int)) oa (by rw [je]; omega)
  exact ⟨rfl, ⟨h, hh⟩, rfl⟩
  exact qyE i r k oa o ho
theorem qzB {all : List qr} : ∀ (rs done : List qr), all = done ++ rs → ∀ o ∈ zaw rs done.length, ∃ r h, zi all o.fC = some r ∧ zi (r.fi ++ r.ff) o.fK = some h ∧ o.fM = decide (o.fK < (r.fi.length : Int))
 | [], _, _, o, ho => by cases ho
 | r :: rs, done, he, o, ho => by
  rw [zaw] at ho
  rcases jl.1 ho with ho | ho
  obtain ⟨h1, ⟨h, h2⟩, h3⟩ := qyE _ r _ (jk _) o ho
  refine ⟨r, h, ?_, h2, h3⟩
  rw [h1, he]
  exact qAu
  exact qzB rs (done ++ [r]) (by rw [he, ji]; rfl) o (by rw [je, jp]; exact ho)
theorem qCB {p : qc} {o : qao} (h : o ∈ zaw p.fd 0) : ∃ r h, zaZ p o r h := qzB p.fd [] rfl o h
theorem qwg : ∀ (rs : List qr) (i : Nat), (∀ r ∈ rs, yW r) → (zaw rs i).length ≤ 4 * rs.length
 | [], i, _ => by simp [zaw]
 | r :: rs, i, h => by
  have h4 := (h r (jd ..)).h4
  have := qwg rs (i + 1) fun x hx => h x (jf _ hx)
  rw [je] at h4
  rw [zaw, je, qtD, jg]
  omega
noncomputable def zby (p : qc) (name : ByteArray) (n : Int) (o : qao) : Bool := match (zi p.fd o.fC).bind fun r => zi (r.fi ++ r.ff) o.fK with
 | some h => (h.n.toList == name.toList) && ((h.ts.length : Int) == n)
 | none => false
theorem qEm {p : qc} (hp : yC p) (name : ByteArray) (n : Int) : ∀ (l out : List qao), (∀ o ∈ l, ∃ r h, zaZ p o r h) → out.length + l.length ≤ 1000000000 → qbq (fun o => some o) n name p l out = some (out ++ l.filter (zby p name n))
 | [], out, _, _ => by rw [qbq, List.filter_nil, js]
 | o :: l, out, ho, hl => by
  rw [jg] at hl
  obtain ⟨r, h, h1, h2, h3⟩ := ho o (jd ..)
  have h4 := (hp.r r (qfM h1)).h4
  rw [je] at h4
  have next := fun out hl => qEm hp name n l out (fun x hx => ho x (jf _ hx)) hl
  rw [qbq, h1, ja, qnw oa, ja, h2, ja]
  have hi : zby p name n o = ((h.n.toList == name.toList) && ((h.ts.length : Int) == n)) := by
   unfold zby
   rw [h1, ja, h2]
  cases e1 : (h.n.toList == name.toList) with
  | false =>
   rw [cond_false, next out oa, vK (by rw [hi, e1]; simp)]
  | true =>
   rw [cond_true]
   cases e2 : ((h.ts.length : Int) == n) with
   | false => rw [cond_false, next out oa, vK (by rw [hi, e1, e2]; simp)]
   | true =>
    rw [cond_true, qf9 oa (n := l.length) oa, ja, next _ (by rw [je, jp]; omega), Jd (by rw [hi, e1, e2]; rfl), ji]
    rfl
theorem qEO {p : qc} (hp : yC p) (name : ByteArray) (n : Int) : qfv p name n = some ((zaw p.fd 0).filter (zby p name n)) := by
 have := hp.l
 have h2 := qwg p.fd 0 hp.r
 unfold qfv
 rw [qCL hp, ja, qEm hp name n _ [] (fun o h => qCB h) oe, jo]
/-! ### layer 26: valid states -/
structure yE (p : qc) (c : qe) : Prop where
 pr : yC p
 sd : zat c.fo c.ft c.fD c.fz c.fE
 sl : c.fb.length ≤ 1000
 f : ∀ f ∈ c.fb, f.fc = 0 → zy f.fk = true ∧ f.fk.op ≤ 4 ∧ ∀ v ∈ zu f.fk.ts, zt c.ft v = none
 w : ∀ f ∈ c.fb, wtL f.fk.ts ≤ 200
structure BkC (c : qe) : Prop where
 g : ∀ f ∈ c.fb, wtL f.fk.ts ≤ 1000000000
 st : ∀ q ∈ c.fo, wtL q.2.ts ≤ 1000000000
 b : ∀ q ∈ c.ft, wt q.2 ≤ 1000000000
 bl : c.ft.length ≤ 9000000000000000000
theorem qBM (g : Gl) : Yl (qeS g) fun b => b = true → g.ts.length = 0 := by
 unfold qeS
 refine .cond (fun _ => .cond (fun _ => .pure fun h => ?_) fun _ => .pure fun h => by cases h) fun _ => .pure fun h => by cases h
 have := eT h
 omega
theorem qsF (fuel : Nat) (hf : 1000000000 < fuel) (p : qc) (c : qe) (all : List qao) : ∀ l : List qn, (∀ f ∈ l, wtL f.fk.ts ≤ 1000000000) → Yl (qa6 (some true) c fuel p all l) fun b => b = true → (∀ f ∈ l, f.fc = 0 → zy f.fk = true ∧ f.fk.op ≤ 4 ∧ ∀ v ∈ zu f.fk.ts, zt c.ft v = none) ∧ ∀ f ∈ l, wtL f.fk.ts ≤ 200
 | [], _ => by rw [qa6]; exact .pure fun _ => ⟨fun f h => (by cases h), fun f h => by cases h⟩
 | f :: l, hw => by
  have hf' := hw f (jd ..)
  have next := fun (h1 : f.fc = 0 → zy f.fk = true ∧ f.fk.op ≤ 4 ∧ ∀ v ∈ zu f.fk.ts, zt c.ft v = none) (h2 : wtL f.fk.ts ≤ 200) => (qsF fuel hf p c all l fun x hx => hw x (jf _ hx)).mono fun b hb hbt => show (∀ x ∈ f :: l, x.fc = 0 → zy x.fk = true ∧ x.fk.op ≤ 4 ∧ ∀ v ∈ zu x.fk.ts, zt c.ft v = none) ∧ ∀ x ∈ f :: l, wtL x.fk.ts ≤ 200 from ⟨fun x hx => (jh.1 hx).elim (fun e => e ▸ h1) ((hb hbt).1 x), fun x hx => (jh.1 hx).elim (fun e => e ▸ h2) ((hb hbt).2 x)⟩
  rw [qa6]
  refine .cond (fun h0 => .cond (fun _ => .pure fun h => by cases h) fun _ => .bind (qB7 p _ hf') fun r1 h1 => .cond (fun _ => .pure fun h => by cases h) fun e1 => .bind (qBq fuel hf _ hf' _ _) fun r2 h2 => .cond (fun _ => .pure fun h => by cases h) fun e2 => ?_) fun h0 => .cond (fun _ => .pure fun h => by cases h) fun _ => .cond (fun _ => .pure fun h => by cases h) fun _ => .bind (qBM _) fun r3 h3 => .cond (fun _ => .pure fun h => by cases h) fun e3 => .cond (fun _ => .pure fun h => by cases h) fun _ => .cond (fun _ => .pure fun h => by cases h) fun _ => ?_
  · have a := h1 (nF e1)
    exact next (fun _ => ⟨a.1, a.2, h2 (nF e2)⟩) (qhc a.1).2
  · refine next (fun h => absurd h (eF h0)) ?_
    rw [jA (h3 (nF e3)), wtL]
    omega
theorem qsw (fuel : Nat) (hf : 1000000000 < fuel) (p : qc) (hp : BkP p) (c : qe) (hc : BkC c) : Yl (qcO fuel p c) fun b => b = true → yE p c := by
 unfold qcO
 refine .bind (qyC fuel hf p hp) fun r1 h1 => .cond (fun _ => .pure fun h => by cases h) fun e1 => .cond (fun _ => .pure fun h => by cases h) fun e2 => ?_
 have pr := h1 (bF e1)
 have e2 := dF e2
 refine .bind (qz3 fuel hf pr _ _ _ _ _ hc.st hc.bl hc.b) fun r4 h4 => .cond (fun _ => .pure fun h => by cases h) fun e4 => ?_
 have sd := h4 (nF e4)
 rw [qCL pr, ja]
 exact (qsF fuel hf p c _ _ hc.g).mono fun b hb h => ⟨pr, sd, by omega, (hb h).1, (hb h).2⟩
theorem yE.bk {p : qc} {c : qe} (h : yE p c) : BkC c := by
 have := h.sd.bd.len
 exact ⟨fun f hf => by have := h.w f hf; omega, fun q hq => by have := (qgj (h.sd.st.a q hq)).2.1; omega, fun q hq => by have := (qhB (h.sd.bd.t q hq)).2; omega, by omega⟩
theorem yE.sw {p : qc} {s : qe} (h : yE p s) : ∀ q ∈ s.fo, wtL q.2.ts ≤ 200 := fun q hq => (qgj (h.sd.st.a q hq)).2.1
theorem yE.bw {p : qc} {s : qe} (h : yE p s) : ∀ q ∈ s.ft, wt q.2 ≤ 200 := fun q hq => (qhB (h.sd.bd.t q hq)).2
/-! ### events -/
theorem qDn (l : List Int) (head id : Int) (h0 : 0 ≤ head) : Yl (qe8 l head id) fun b => b = true ↔ zi l head = some id := by
 unfold qe8
 refine .cond (fun h => ?_) fun h => .pure ⟨fun h => (by cases h), fun e => absurd (qkT e).2.1 (by have := dF h; omega)⟩
 obtain ⟨x, hx, _⟩ := yo (l := l) (i := head) h0 (dT h)
 rw [hx, ja]
 exact .pure ⟨fun h => by rw [eT h], fun h => by rw [Option.some.inj h]; simp⟩
theorem qtk (f : qn) (kind : Int) (o : qao) (h0 : 0 ≤ o.fK) : ∀ (l : List (List Int)) (out : List qv), out.length + l.length ≤ 100000000000 → Yl (qak (fun o => some o) f kind o l out) fun r => ∃ more, r = out ++ more ∧ more.length ≤ l.length ∧ (∀ e ∈ more, ∃ x ∈ l, zi x o.fK = some f.fc ∧ e = ⟨kind, f.fc, f.fu, o.fC, x⟩) ∧ ∀ x ∈ l, zi x o.fK = some f.fc → more ≠ []
 | [], out, _ => by
  rw [qak]
  exact .pure ⟨[], by simp, jk _, fun e h => (by cases h), fun x h => (by cases h)⟩
 | x :: l, out, h => by
  rw [jg] at h
  rw [qak]
  refine .bind (qDn x o.fK f.fc h0) fun b hb => .cond (fun hb' => ?_) fun hb' => ?_
  rw [qC5 oa (n := l.length) oa, ja]
  refine (qtk f kind o h0 l _ (by rw [je, jp]; omega)).mono fun r hr => ?_
  obtain ⟨more, e, h1, h2, _⟩ := hr
  refine ⟨_ :: more, by rw [e, ji]; rfl, by rw [jg, jg]; omega, fun e he => ?_, fun y _ _ => by simp⟩
  rcases jh.1 he with rfl | he
  exact ⟨x, jd .., hb.1 hb', rfl⟩
  obtain ⟨y, hy, h3⟩ := h2 e he
  exact ⟨y, jf _ hy, h3⟩
  refine (qtk f kind o h0 l out oa).mono fun r hr => ?_
  obtain ⟨more, e, h1, h2, h3⟩ := hr
  refine ⟨more, e, by rw [jg]; omega, fun e he => ?_, fun y hy hyw => ?_⟩
  obtain ⟨y, hy, h4⟩ := h2 e he
  exact ⟨y, jf _ hy, h4⟩
  rcases jh.1 hy with rfl | hy
  exact absurd (hb.2 hyw) (by rw [hb']; simp)
  exact h3 y hy hyw
noncomputable abbrev chs (fuel : Nat) (p : qc) (c : qe) (rule : Int) : Option (List (List Int)) := qds fuel p c.fo c.ft [] c.fD rule
theorem qBf (fuel : Nat) (hf : 1500000000 < fuel) {p : qc} {c : qe} (hc : yE p c) (o : qao) (r : qr) (h : At) (ho : zaZ p o r h) (f : qn) : ∃ ch, chs fuel p c o.fC = some ch ∧ (∀ x ∈ ch, ∃ env, qa3 fuel p c.fo c.ft [] c.fD o.fC x = some (env, true) ∧ zan c.fo r x env) ∧ Yl (qec fuel p c o f) fun l => l.length ≤ 62500000000 ∧ (∀ e ∈ l, ∃ x ∈ ch, zi x o.fK = some f.fc ∧ e = ⟨if o.fM then 5 else 4, f.fc, f.fu, o.fC, x⟩) ∧ (l = [] → ∀ x ∈ ch, zi x o.fK ≠ some f.fc) := by
 obtain ⟨ch, e, h1, h2⟩ := qx2 fuel hf hc.pr hc.sd.st.n hc.sw hc.bw [] (fun g h => by cases h) c.fD o.fC r ho.1
 refine ⟨ch, e, h2, ?_⟩
 have h0 := (qkT ho.2.1).1
 unfold qec qes
 rw [e, ja]
 have main : ∀ kind : Int, Yl (qak (fun o => some o) f kind o ch []) fun l => l.length ≤ 62500000000 ∧ (∀ e ∈ l, ∃ x ∈ ch, zi x o.fK = some f.fc ∧ e = ⟨kind, f.fc, f.fu, o.fC, x⟩) ∧ (l = [] → ∀ x ∈ ch, zi x o.fK ≠ some f.fc) := fun kind => by
  refine (qtk f kind o h0 ch [] oe).mono fun l hl => ?_
  obtain ⟨more, e, h3, h4, h5⟩ := hl
  rw [jo] at e
  subst e
  exact ⟨by omega, h4, fun h x hx hw => h5 x hx hw h⟩
 refine .cond (fun hk => ?_) fun hk => ?_
 rw [hk]
 exact main 5
 rw [hk]
 exact main 4
inductive zbB (fuel : Nat) (p : qc) (c : qe) (pre : List qn) (f : qn) (e : qv) : Prop
 | solve : e.fa = 1 → f.fc = 0 → f.fk.op ≠ 0 → zbB fuel p c pre f e
 | act : e.fa = 2 → f.fc = 0 → f.fk.op = 0 → e.fc = c.fz → zbB fuel p c pre f e
 | gone : e.fa = 7 → f.fc ≠ 0 → (∀ a, (f.fc, a) ∉ c.fo) → zbB fuel p c pre f e
 | last (a : At) : e.fa = 7 → f.fc ≠ 0 → (f.fc, a) ∈ c.fo → (((zaw p.fd 0).filter (zby p a.n (a.ts.length : Int))).length : Int) ≤ f.fu → zbB fuel p c pre f e
 | re : e.fa = 3 → f.fc ≠ 0 → zbB fuel p c pre f e
 | dflt (a : At) (o : qao) (r : qr) (h : At) (ch : List (List Int)) : e.fa = 6 → f.fc ≠ 0 → (f.fc, a) ∈ c.fo → 0 ≤ f.fu → zi ((zaw p.fd 0).filter (zby p a.n (a.ts.length : Int))) f.fu = some o → zaZ p o r h → chs fuel p c o.fC = some ch → (∀ x ∈ ch, zi x o.fK ≠ some f.fc) → zbB fuel p c pre f e
 | app (a : At) (o : qao) (r : qr) (h : At) (env : En) : (e.fa = 4 ∧ o.fM = false ∨ e.fa = 5 ∧ o.fM = true) → f.fc ≠ 0 → (f.fc, a) ∈ c.fo → 0 ≤ f.fu → zi ((zaw p.fd 0).filter (zby p a.n (a.ts.length : Int))) f.fu = some o → zaZ p o r h → e.fJ = o.fC → zi e.fH o.fK = some f.fc → qa3 fuel p c.fo c.ft [] c.fD e.fJ e.fH = some (env, true) → zan c.fo r e.fH env → zbB fuel p c pre f e
theorem qxv (id : Int) : ∀ l : List (Int × At), Yl (qav (some ((⟨⟨#[]⟩, []⟩ : At), false)) id l) fun r => (r.2 = true → (id, r.1) ∈ l) ∧ (r.2 = false → ∀ a, (id, a) ∉ l)
 | [] => by rw [qav]; exact .pure ⟨fun h => (by cases h), fun _ a h => by cases h⟩
 | q :: l => by
  rw [qav]
  refine .cond (fun h => .pure ⟨fun _ => ?_, fun h => by cases h⟩) fun h1 => (qxv id l).mono fun r hr => ⟨fun h => jf _ (hr.1 h), fun h a ha => ?_⟩
  rw [← eT h]
  exact jd ..
  rcases jh.1 ha with rfl | ha
  exact eF h1 rfl
  exact hr.2 h a ha
theorem quW (fuel : Nat) (hf : 1500000000 < fuel) {p : qc} (hp : BkP p) {c : qe} (hc : BkC c) : ∃ b, qcO fuel p c = some b ∧ (b = true → yE p c) ∧ Yl (qbB fuel p c) fun l => l.length ≤ 100000000000 ∧ (l = [] → b = false ∨ c.fG = true ∨ c.fb = []) ∧ ∀ e l', l = e :: l' → yE p c ∧ c.fG = false ∧ ∃ pre f, c.fb = pre ++ [f] ∧ zi c.fb (wr ((c.fb.length : Int) - 1)) = some f ∧ zZ c.fb 0 (wr ((c.fb.length : Int) - 1)) = some pre ∧ zbB fuel p c pre f e := by
 obtain ⟨b, eb, hb⟩ := qsw fuel oa p hp c hc
 refine ⟨b, eb, hb, ?_⟩
 have none_ : ∀ (Q : Prop), Q → Yl (some ([] : List qv)) fun l => l.length ≤ 100000000000 ∧ (l = [] → Q) ∧ ∀ e l', l = e :: l' → yE p c ∧ c.fG = false ∧ ∃ pre f, c.fb = pre ++ [f] ∧ zi c.fb (wr ((c.fb.length : Int) - 1)) = some f ∧ zZ c.fb 0 (wr ((c.fb.length : Int) - 1)) = some pre ∧ zbB fuel p c pre f e := fun Q hq => .pure ⟨by simp, fun _ => hq, fun e l' h => by cases h⟩
 unfold qbB
 rw [eb, ja]
 refine .cond (fun h => none_ _ (.inl (nT h))) fun h1 => .cond (fun h => none_ _ (.inr (.inl h))) fun h2 => .cond (fun h => none_ _ (.inr (.inr ?_))) fun h3 => ?_
 exact jA (by have := eT h; omega)
 have ok := hb (nF h1)
 have hsl := ok.sl
 obtain ⟨pre, f, es, eg, ss⟩ := qDS (l := c.fb) (eF h3) oa
 rw [eg, ja]
 have one : ∀ e : qv, zbB fuel p c pre f e → Yl (some [e]) fun l => l.length ≤ 100000000000 ∧ (l = [] → b = false ∨ c.fG = true ∨ c.fb = []) ∧ ∀ e l', l = e :: l' → yE p c ∧ c.fG = false ∧ ∃ pre f, c.fb = pre ++ [f] ∧ zi c.fb (wr ((c.fb.length : Int) - 1)) = some f ∧ zZ c.fb 0 (wr ((c.fb.length : Int) - 1)) = some pre ∧ zbB fuel p c pre f e := fun e he => .pure ⟨by simp, fun h => (by cases h), fun e' l' h => by
  cases h
  exact ⟨ok, h2, pre, f, es, eg, ss, he⟩⟩
 rw [eg] at one
 refine .cond (fun h0 => .cond (fun h4 => one _ (.solve rfl (eT h0) (bT h4))) fun h4 => one _ (.act rfl (eT h0) (bF h4) rfl)) fun h0 => ?_
 have h0 := eF h0
 refine .bind (qxv f.fc c.fo) fun r hr => .cond (fun h4 => one _ (.gone rfl h0 (hr.2 (nT h4)))) fun h4 => ?_
 have ha := hr.1 (nF h4)
 refine .cond (fun h5 => one _ (.re rfl h0)) fun h5 => ?_
 have h5 := dF h5
 rw [qEO ok.pr, ja]
 refine .cond (fun h6 => one _ (.last r.1 rfl h0 ha (dT h6))) fun h6 => ?_
 have h6 := dF h6
 obtain ⟨o, eo, hm⟩ := yo (l := (zaw p.fd 0).filter (zby p r.1.n (r.1.ts.length : Int))) (i := f.fu) oa oa
 obtain ⟨rl, hd, ho⟩ := qCB (vl.1 hm).1
 rw [eo, ja]
 obtain ⟨ch, ech, hch, hr⟩ := qBf fuel hf ok o rl hd ho f
 refine .bind hr fun l hl => .cond (fun h7 => ?_) fun h7 => ?_
 have : l = [] := jA (by have := eT h7; omega)
 subst this
 rw [qf9 oa (n := 0) og, ja]
 exact one _ (.dflt r.1 o rl hd ch rfl h0 ha oa eo ho ech (hl.2.2 rfl))
 refine .pure ⟨by omega, fun h => absurd (by rw [h]; rfl) (eF h7), fun e l' h => ?_⟩
 obtain ⟨x, hx, hw, rfl⟩ := hl.2.1 e (by rw [h]; exact jd ..)
 obtain ⟨env, ee, he⟩ := hch x hx
 refine ⟨ok, h2, pre, f, es, rfl, ss, .app r.1 o rl hd env ?_ h0 ha oa eo ho rfl hw ee he⟩
 cases hk : o.fM with
 | true => exact .inr ⟨by simp, rfl⟩
 | false => exact .inl ⟨by simp, rfl⟩
theorem qDk (fuel : Nat) (hf : 1500000000 < fuel) {p : qc} (hp : BkP p) {c : qe} (hc : BkC c) : Yl (qe5 fuel p c) fun r => (r.2 = true → ∃ l', qbB fuel p c = some (r.1 :: l')) ∧ (r.2 = false → qbB fuel p c = some []) := by
 obtain ⟨b, _, _, l, el, _⟩ := quW fuel hf hp hc
 unfold qe5
 rw [el, ja]
 refine .cond (fun h => .pure ⟨fun h => (by cases h), fun _ => ?_⟩) fun h => ?_
 rw [jA (l := l) (by have := eT h; omega)]
 cases l with
 | nil => exact absurd rfl (eF h)
 | cons e l => exact .pure ⟨fun _ => ⟨l, rfl⟩, fun h => by cases h⟩
theorem qwl (b : qv) : ∀ (l : List Int) (i : Nat), i + l.length = b.fH.length → Yl (qaV (some true) b l i) fun r => b.fH.drop i = l → r = true
 | [], i, _ => by rw [qaV]; exact .pure fun _ => rfl
 | x :: l, i, h => by
  rw [jg] at h
  obtain ⟨y, hy, _⟩ := yo (l := b.fH) (i := (i : Int)) oa oa
  rw [qaV, hy, ja]
  rw [qdQ] at hy
  have hd : b.fH.drop i = y :: b.fH.drop (i + 1) := by
   rw [jY oa]
   rw [jq oa] at hy
   rw [Option.some.inj hy]
  refine .cond (fun h1 => .pure fun h2 => ?_) fun _ => (qwl b l (i + 1) oa).mono fun r hr h2 => hr ?_
  rw [hd] at h2
  exact absurd (List.cons.inj h2).1.symm (bT h1)
  rw [hd] at h2
  exact (List.cons.inj h2).2
theorem qwV (a b : qv) : Yl (qdO a b) fun r => a = b → r = true := by
 unfold qdO
 refine .cond (fun h => .pure fun e => absurd (by rw [e]) (bT h)) fun _ => .cond (fun h => .pure fun e => absurd (by rw [e]) (bT h)) fun _ => .cond (fun h => .pure fun e => absurd (by rw [e]) (bT h)) fun _ => .cond (fun h => .pure fun e => absurd (by rw [e]) (bT h)) fun _ => .cond (fun h => .pure fun e => absurd (by rw [e]) (bT h)) fun h => ?_
 exact (qwl b a.fH 0 (by have := bF h; omega)).mono fun r hr e => hr (by rw [e]; rfl)
theorem qvj {k : Bool → Option (qe × Int)} {Q : qe × Int → Prop} (e : qv) (hk : Yl (k true) Q) : ∀ l : List qv, Yl (qbn k e l true) Q
 | [] => by rw [qbn]; exact hk
 | x :: l => by
  rw [qbn]
  exact .bind (qwV x e) fun _ _ => .cond (fun _ => qvj e hk l) fun _ => qvj e hk l
theorem qn7 (l : List qn) (f : qn) (hl : l.length ≤ 1000000000) : qat l f = some (l ++ [f]) := by
 rw [qat, qpw oa hl, ja, qf9 oa (n := 0) oa, ja]
/-! ### layer 22 -/
theorem qvT (n : Int) : ∀ l : List Int, Yl (qcr (some false) n l) fun _ => True
 | [] => by rw [qcr]; exact .pure trivial
 | x :: l => by rw [qcr]; exact .cond (fun _ => .pure trivial) fun _ => qvT n l
theorem qCp {k : Int → Option (List Int)} {Q : List Int → Prop} (q : Int × At) (N : Nat) (hk : ∀ j : Nat, j ≤ N → Yl (k (j : Int)) Q) : ∀ (l : List Int) (i : Nat), i + l.length ≤ N → Yl (qaZ k q l i) Q
 | [], i, h => by rw [qaZ]; exact hk i (by simpa using h)
 | x :: l, i, h => by
  rw [jg] at h
  rw [qaZ]
  exact .cond (fun _ => qCp q N hk l (i + 1) oa) fun _ => hk i oa
theorem qAH {k : Bool → Option (List Int)} {Q : List Int → Prop} (hk : ∀ b, Yl (k b) Q) (vars : List Int) : ∀ (l : List Int) (b : Bool), Yl (qax k vars l b) Q
 | [], b => by rw [qax]; exact hk b
 | x :: l, b => by
  rw [qax]
  exact .cond (fun _ => qAH hk vars l true) fun _ => .bind (qvT x vars) fun r _ => qAH hk vars l r
theorem qCx (fuel : Nat) (hf : 1000000000 < fuel) (vars : List Int) (S : List (Int × At)) : ∀ (l : List (Int × At)) (out : List Int), (∀ q ∈ l, wtL q.2.ts ≤ 200 ∧ q ∈ S) → (∀ x ∈ out, ∃ a, (x, a) ∈ S) → out.length + l.length ≤ 1000000000 → Yl (qal (fun o => some o) fuel vars l out) fun r => (∀ x ∈ r, ∃ a, (x, a) ∈ S) ∧ r.length ≤ out.length + l.length
 | [], out, _, ho, _ => by rw [qal]; exact .pure ⟨ho, by simp⟩
 | q :: l, out, hw, ho, hl => by
  rw [jg] at hl ⊢
  have hq := hw q (jd ..)
  have next := fun out ho hl => qCx fuel hf vars S l out (fun x hx => hw x (jf _ hx)) ho hl
  rw [qal]
  unfold qbM
  rw [qnq fuel q.2.ts oa oa, ja, ja]
  refine qAH (fun b => .cond (fun _ => (next out ho oa).mono fun r hr => ⟨hr.1, by omega⟩) fun _ => .bind (qvT q.1 out) fun r _ => .cond (fun _ => (next out ho oa).mono fun r hr => ⟨hr.1, by omega⟩) fun _ => ?_) vars _ false
  refine qCp q out.length (fun j hj => ?_) out 0 oa
  have s1 : zZ out 0 (j : Int) = some (out.take j) := by
   unfold zZ
   rw [if_pos oa]
   simp
  have s2 : zZ out (j : Int) (out.length : Int) = some (out.drop j) := by
   unfold zZ
   rw [if_pos oa]
   simp
  rw [s1, ja, qpw oa oe, ja, qf9 oa (n := 0) oe, ja, s2, ja, qnC oa oe, ja]
  refine (next _ (fun x hx => ?_) oe).mono fun r hr => ⟨hr.1, by have := hr.2; simp at this; omega⟩
  simp only [jl, jn] at hx
  rcases hx with (hx | hx) | hx
  exact ho x (vd hx)
  rw [hx]
  exact ⟨q.2, hq.2⟩
  exact ho x (ve hx)
theorem qEa (fuel : Nat) (hf : 1000000000 < fuel) (l : List (Int × At)) (hl : l.length ≤ 1000000) (hw : ∀ q ∈ l, wtL q.2.ts ≤ 200) (vars : List Int) : Yl (qeb fuel l vars) fun r => (∀ x ∈ r, ∃ a, (x, a) ∈ l) ∧ r.length ≤ l.length := by
 unfold qeb
 exact (qCx fuel hf vars l l [] (fun q hq => ⟨hw q hq, hq⟩) (fun x h => by cases h) oe).mono fun r hr => ⟨hr.1, by simpa using hr.2⟩
/-! ### a built-in goal -/
def apF (b : En) (f : qn) : qn := if f.fc = 0 then ⟨apG b f.fk, f.fc, f.fu⟩ else f
def zbe (i : Int) : qn := ⟨⟨0, ⟨#[]⟩, []⟩, i, -1⟩
def y9 (g : Gl) : qn := ⟨g, 0, 0⟩
theorem qvR {α β : Type} {l : List α} (f : α → β) (n : Nat) (h : n ≤ l.length) {x : α} (hx : zi l ((n : Nat) : Int) = some x) (out : List β) : out ++ [f x] ++ (l.take n).reverse.map f = out ++ (l.take (n + 1)).reverse.map f := by
 rw [qdQ] at hx
 rw [List.take_add_one, hx]
 simp
theorem qsm {k : List qn → Option (qe × Int)} (ids : List Int) : ∀ (n : Nat) (st : List qn), n ≤ ids.length → st.length + n ≤ 1000000000 → qbN k ids n st = k (st ++ (ids.take n).reverse.map zbe)
 | 0, st, _, _ => by rw [qbN]; simp
 | n + 1, st, h, hl => by
  obtain ⟨x, hx, _⟩ := yo (l := ids) (i := (n : Int)) oa oa
  rw [qbN, hx, ja, qf9 oa (n := n) oa, ja, qsm ids n _ oa (by rw [je, jp]; omega)]
  congr 1
  exact qvR zbe n oa hx st
theorem qsI (fuel : Nat) (hf : 1500000000 < fuel) {c : qe} {pre : List qn} {f0 : qn} (hs : c.fb = pre ++ [f0]) (hw : ∀ f ∈ pre, wtL f.fk.ts ≤ 200) (r : En × List Int × Int) (hb : ∀ q ∈ r.1, wt q.2 ≤ 200) {k : List qn → Option (qe × Int)} {Q : qe × Int → Prop} (hQ : Q (⟨[], [], [], [], 0, 0, false⟩, 6)) (hp : pre.length ≤ 1000)
 (hk : (∀ f ∈ pre, f.fc = 0 → zy (apG r.1 f.fk) = true) → Yl (k (pre.map (apF r.1))) Q) : ∀ (n : Nat) (done rest : List qn) (i : Int), pre = done ++ rest → n = rest.length → i = (done.length : Int) → (∀ f ∈ done, f.fc = 0 → zy (apG r.1 f.fk) = true) → Yl (qaG k c fuel r n (done.map (apF r.1)) i) Q
 | 0, done, rest, i, h, hn, _, hd => by
  rw [qaG]
  rw [jA hn.symm, js] at h
  subst h
  exact hk hd
 | n + 1, done, [], i, h, hn, _, _ => by cases hn
 | n + 1, done, f :: rest, i, h, hn, hi, hd => by
  have hlen : pre.length = done.length + (rest.length + 1) := by rw [h, je, jg]
  have hg : zi c.fb i = some f := by
   rw [hs, h, hi, ji]
   exact qAu
  have hfw := hw f (by rw [h]; simp)
  have next : (f.fc = 0 → zy (apG r.1 f.fk) = true) → Yl (qaG k c fuel r n (done.map (apF r.1) ++ [apF r.1 f]) (i + 1)) Q := fun hr => by
   have := qsI fuel hf hs hw r hb hQ hp hk n (done ++ [f]) rest (i + 1) (by rw [h, ji]; rfl) (by rw [jg] at hn; omega) (by rw [je, jp]; omega) (fun x hx => by
    rcases jl.1 hx with hx | hx
    exact hd x hx
    rw [jn.1 hx]
    exact hr)
   rw [jK, Jg] at this
   exact this
  rw [qaG, hg, ja]
  refine .cond (fun h0 => ?_) fun h0 => ?_
  · have h1 := qsK (W := 200) oa hb f.fk.ts
    have h2 : wtL f.fk.ts * 200 ≤ 200 * 200 := jM _ hfw
    rw [qq3 r.1 fuel f.fk oa oa, ja, qh5 _ (show wtL (apL r.1 f.fk.ts) ≤ 1000000000 by omega), ja]
    refine .cond (fun _ => .pure hQ) fun hr => ?_
    rw [qf9 oa (n := 0) oe, ja]
    have := next fun _ => nF hr
    unfold apF at this
    rw [if_pos (eT h0)] at this
    exact this
  · rw [qf9 oa (n := 0) oe, ja]
    have := next fun h => absurd h (eF h0)
    have e : apF r.1 f = f := by unfold apF; rw [if_neg (eF h0)]
    rw [e] at this
    exact this
structure zbv (fuel : Nat) (c : qe) (pre : List qn) (f : qn) (t : qe) (b : En) (ids : List Int) : Prop where
 eq : ∃ bound, qd3 fuel c.ft f.fk = some (b, bound, 0)
 st : t.fb = pre.map (apF b) ++ ids.reverse.map zbe
 s : t.fo = c.fo.map (apI b)
 bb : t.ft = b
 h : t.fD = c.fD
 n : t.fz = c.fz
 fr : t.fE = c.fE
 fl : t.fG = c.fG
 w : ∀ q ∈ b, wt q.2 ≤ 200
 l : b.length ≤ 1000000000
 g : f.fk.op ≠ 3 → Gud c.ft b
 ok : zb9 t.fo
 id : ∀ x ∈ ids, ∃ a, (x, a) ∈ c.fo
 sl : t.fb.length ≤ 1000
 r : ∀ f ∈ pre, f.fc = 0 → zy (apG b f.fk) = true
theorem qyq (fuel : Nat) (hf : 1500000000 < fuel) {p : qc} {c : qe} (hc : yE p c) {pre : List qn} {f : qn} (hs : c.fb = pre ++ [f]) (hg : zi c.fb (wr ((c.fb.length : Int) - 1)) = some f) (hsub : zZ c.fb 0 (wr ((c.fb.length : Int) - 1)) = some pre) (h0 : f.fc = 0) (hop : f.fk.op ≠ 0) : Yl (qeL fuel c) fun r => r.2 = 0 → r.1 = { c with fb := pre, fG := true } ∨ ∃ b ids, zbv fuel c pre f r.1 b ids := by
 have hfm : f ∈ c.fb := by rw [hs]; simp
 have hgm := hc.f f hfm h0
 have hsl := hc.sl
 have hpl : c.fb.length = pre.length + 1 := by rw [hs, je, jp]
 have hpw : ∀ x ∈ pre, wtL x.fk.ts ≤ 200 := fun x hx => hc.w x (by rw [hs]; exact jr _ hx)
 have hst := hc.sw
 have hstl := hc.sd.st.n
 unfold qeL
 rw [hg, ja]
 obtain ⟨r, er, hr⟩ := qxP fuel hf hc.sd.bd f.fk hgm.1 hop hgm.2.1 hgm.2.2
 rw [er, ja]
 refine .cond (fun _ => .pure fun h => absurd h (show ¬ (6 : Int) = 0 by omega)) fun _ => .cond (fun _ => ?_) fun h1 => ?_
 rw [hsub, ja]
 exact .pure fun _ => .inl rfl
 obtain ⟨⟨hb, hbl⟩, hgud⟩ := hr (bF h1)
 have h1 := bF h1
 rw [show ((wr ((c.fb.length : Int) - (1 : Int))) - 0 : Int).toNat = pre.length by rw [qgA oa]; omega]
 refine qsI fuel hf hs hpw r hb (fun h => absurd h (show ¬ (6 : Int) = 0 by omega)) oa (fun hrt => ?_) _ [] pre 0 rfl rfl rfl (fun x h => by cases h)
 rw [qys fuel hf r.1 _ hst oa, ja]
 refine .bind (qAV _ fun q hq => ?_) fun r3 q3 => .cond (fun _ => .pure fun h => absurd h (show ¬ (6 : Int) = 0 by omega)) fun e3 => .bind (qEa fuel oa _ oa hst _) fun ids hids => ?_
 obtain ⟨x, hx, rfl⟩ := jx.1 hq
 have h1 := qsK (W := 200) oa hb x.2.ts
 have h2 : wtL x.2.ts * 200 ≤ 200 * 200 := jM _ (hst x hx)
 show wtL (apL r.1 x.2.ts) ≤ 1000000000
 omega
 have hil := hids.2
 rw [qpC oa, ja, qsm ids ids.length _ (jk _) oe, vM]
 refine .cond (fun _ => .pure fun h => absurd h (show ¬ (6 : Int) = 0 by omega)) fun h5 => .pure fun _ => .inr ⟨r.1, ids, ?_⟩
 have h5 := dF h5
 exact ⟨⟨r.2.1, by rw [er, ← h1]⟩, rfl, rfl, rfl, rfl, rfl, rfl, rfl, hb, hbl, hgud, q3 (nF e3), hids.1, by dsimp only; omega, hrt⟩
/-! ### a rule -/
theorem qsM {k : List qn → Option (qe × Int)} (r : List (Int × At) × List qm × List Gl × Int) : ∀ (n : Nat) (st : List qn), n ≤ r.2.2.1.length → st.length + n ≤ 1000000000 → qba k r n st = k (st ++ (r.2.2.1.take n).reverse.map y9)
 | 0, st, _, _ => by rw [qba]; simp
 | n + 1, st, h, hl => by
  obtain ⟨x, hx, _⟩ := yo (l := r.2.2.1) (i := (n : Int)) oa oa
  rw [qba, hx, ja, qn7 _ _ oa, ja, qsM r n _ oa (by rw [je, jp]; omega)]
  congr 1
  exact qvR y9 n oa hx st
structure zas (fuel : Nat) (p : qc) (c : qe) (pre : List qn) (e : qv) (r : qr) (env : En) (t : qe) : Prop where
 eq : qdq fuel p c.fo c.fD env c.fE e.fJ e.fH = some (t.fo, t.fD, r.fg.map (inG (ef env c.fE)), 0)
 st : t.fb = (if e.fa = 4 then pre else c.fb) ++ (r.fg.map (inG (ef env c.fE))).reverse.map y9
 s : t.fo = yy c.fo (e.fH.drop r.fi.length)
 bb : t.ft = c.ft
 n : t.fz = c.fz
 fr : t.fE = wr (c.fE + r.fN)
 fl : t.fG = c.fG
 g : ∀ g ∈ r.fg, zy (inG (ef env c.fE) g) = true
 sl : t.fb.length ≤ 1000
theorem qxG (fuel : Nat) (hf : 1500000000 < fuel) {p : qc} {c : qe} (hc : yE p c) {pre : List qn} {f : qn} (hs : c.fb = pre ++ [f]) (hsub : zZ c.fb 0 (wr ((c.fb.length : Int) - 1)) = some pre) (e : qv) (r : qr) (hr : zi p.fd e.fJ = some r) (env : En) (ee : qa3 fuel p c.fo c.ft [] c.fD e.fJ e.fH = some (env, true)) (he : zan c.fo r e.fH env) : Yl (qd0 fuel p c e) fun t => t.2 = 0 → zas fuel p c pre e r env t.1 := by
 have hsl := hc.sl
 have hpl : c.fb.length = pre.length + 1 := by rw [hs, je, jp]
 have hbl := (hc.pr.r r (qfM hr)).bl
 unfold qd0 qeZ
 rw [ee, ja]
 obtain ⟨q, eq, hq⟩ := qyi fuel hf hc.pr hc.sd.st _ hc.sd.hl c.fE e.fJ r hr e.fH env he
 rw [eq, ja]
 refine .cond (fun h => .pure fun h' => absurd h' (bT h)) fun h1 => ?_
 have h1 := bF h1
 obtain ⟨a1, a2, a3⟩ := hq h1
 have hb : q.2.2.1.length ≤ 12 := by rw [a2, jb]; omega
 have main : ∀ st : List qn, st.length ≤ 1000 → st = (if e.fa = 4 then pre else c.fb) → Yl ((zab (wr ((q.2.2.1.length : Int) - (1 : Int)))).bind fun m_15 => qba (fun stack_9 => (bif (decide ((stack_9.length : Int) > (1000 : Int))) then some ((⟨[], [], [], [], 0, 0, false⟩ : qe), 6) else ((zi p.fd e.fJ).bind fun q_11 => some ((⟨stack_9, q.1, c.ft, q.2.1, c.fz, (wr (c.fE + q_11.fN)), c.fG⟩ : qe), 0)))) q m_15 st) fun t => t.2 = 0 → zas fuel p c pre e r env t.1 := fun st hst he => by
  rw [qpC oa, ja, qsM q q.2.2.1.length st (jk _) oa, vM]
  refine .cond (fun _ => .pure fun h => absurd h (show ¬ (6 : Int) = 0 by omega)) fun h5 => ?_
  have h5 := dF h5
  rw [hr, ja]
  refine .pure fun _ => ⟨?_, ?_, a1, rfl, rfl, rfl, rfl, fun g hg => a3 _ ?_, by dsimp only; omega⟩
  rw [eq, ← a2, ← h1]
  show st ++ _ = _
  rw [he, a2]
  rw [a2]
  exact jx.2 ⟨g, hg, rfl⟩
 refine .cond (fun hk => ?_) fun hk => ?_
 rw [hsub, ja]
 exact main pre oa (by rw [if_pos (eT hk)])
 exact main c.fb oa (by rw [if_neg (eF hk)])
/-! ### a step -/
inductive zbm (fuel : Nat) (p : qc) (c : qe) (pre : List qn) (f : qn) (e : qv) (t : qe) : Prop
 | fail : e.fa = 1 → t = { c with fb := pre, fG := true } → zbm fuel p c pre f e t
 | solve (b : En) (ids : List Int) : e.fa = 1 → f.fc = 0 → f.fk.op ≠ 0 → zbv fuel c pre f t b ids → zbm fuel p c pre f e t
 | app (a : At) (o : qao) (r : qr) (h : At) (env : En) : (e.fa = 4 ∧ o.fM = false ∨ e.fa = 5 ∧ o.fM = true) → f.fc ≠ 0 → (f.fc, a) ∈ c.fo → zi ((zaw p.fd 0).filter (zby p a.n (a.ts.length : Int))) f.fu = some o → zaZ p o r h → e.fJ = o.fC → zi e.fH o.fK = some f.fc → qa3 fuel p c.fo c.ft [] c.fD e.fJ e.fH = some (env, true) → zan c.fo r e.fH env → zas fuel p c pre e r env t → zbm fuel p c pre f e t
 | drop : e.fa = 7 → t = { c with fb := pre } → f.fc ≠ 0 → ((∀ a, (f.fc, a) ∉ c.fo) ∨ ∃ a, (f.fc, a) ∈ c.fo ∧ (((zaw p.fd 0).filter (zby p a.n (a.ts.length : Int))).length : Int) ≤ f.fu) → zbm fuel p c pre f e t
 | act : e.fa = 2 → f.fc = 0 → f.fk.op = 0 → c.fz ≠ 2147483648 → zA ⟨f.fk.n, f.fk.ts⟩ = true → zb9 c.fo → c.fo.length < 500 → t = ⟨pre ++ [⟨⟨0, ⟨#[]⟩, []⟩, c.fz, 0⟩], c.fo ++ [(c.fz, ⟨f.fk.n, f.fk.ts⟩)], c.ft, c.fD, wr (c.fz + 1), c.fE, c.fG⟩ → zbm fuel p c pre f e t
 | re : e.fa = 3 → f.fc ≠ 0 → t = { c with fb := pre ++ [⟨f.fk, f.fc, 0⟩] } → zbm fuel p c pre f e t
 | dflt (a : At) (o : qao) (r : qr) (h : At) (ch : List (List Int)) : e.fa = 6 → f.fc ≠ 0 → (f.fc, a) ∈ c.fo → 0 ≤ f.fu → zi ((zaw p.fd 0).filter (zby p a.n (a.ts.length : Int))) f.fu = some o → zaZ p o r h → chs fuel p c o.fC = some ch → (∀ x ∈ ch, zi x o.fK ≠ some f.fc) → t = { c with fb := pre ++ [⟨f.fk, f.fc, wr (f.fu + 1)⟩] } → zbm fuel p c pre f e t
theorem qAq {l : List (Int × At)} (hst : zb9 l) (x : Int × At) (hx : wtL x.2.ts ≤ 200) : Yl (qdd l x) fun r => r.2 = 0 → (r.1 = l ++ [x] ∧ zA x.2 = true) ∧ l.length < 500 := by
 obtain ⟨r, e, hr⟩ := qA5 hst x hx
 refine ⟨r, e, fun h => ⟨hr h, ?_⟩⟩
 have key : Yl (qdd l x) fun r => r.2 = 0 → l.length < 500 := by
  have hl := hst.n
  unfold qdd
  refine .bind (qAV l fun q hq => by have := (qgj (hst.a q hq)).2.1; omega) fun _ _ => .cond (fun _ => .pure fun h => absurd h (show ¬ (2 : Int) = 0 by omega)) fun _ => ?_
  rw [qh4 x.2 oa, ja]
  refine .cond (fun _ => .pure fun h => absurd h (show ¬ (2 : Int) = 0 by omega)) fun hr => .cond (fun _ => .pure fun h => absurd h (show ¬ (2 : Int) = 0 by omega)) fun _ => ?_
  have main : ∀ (k : Option (List (Int × At) × Int)) (_ : Yl k fun r => r.2 = 0 → l.length < 500) (m : List (Int × At)), Yl (qaO k x m) fun r => r.2 = 0 → l.length < 500 := fun k hk m => by
   induction m with
   | nil => rw [qaO]; exact hk
   | cons y m ih =>
    rw [qaO]
    exact .cond (fun _ => .pure fun h => absurd h (show ¬ (8 : Int) = 0 by omega)) fun _ => ih
  refine main _ (.cond (fun h => ?_) fun _ => .cond (fun _ => .pure fun h => absurd h (show ¬ (6 : Int) = 0 by omega)) fun h5 => ?_) l
  have h := dT h
  obtain ⟨y, hy, _⟩ := yo (l := l) (i := wr ((l.length : Int) - 1)) (by rw [qgA oa]; omega) (by rw [qgA oa]; omega)
  rw [hy, ja]
  refine .cond (fun _ => .pure fun h => absurd h (show ¬ (2 : Int) = 0 by omega)) fun _ => .cond (fun _ => .pure fun h => absurd h (show ¬ (6 : Int) = 0 by omega)) fun h5 => ?_
  have h5 := dF h5
  rw [qpw oa oa, ja, qf9 oa (n := 0) oa, ja]
  exact .pure fun _ => by omega
  have h5 := dF h5
  rw [qpw oa oa, ja, qf9 oa (n := 0) oa, ja]
  exact .pure fun _ => by omega
 obtain ⟨r', e', h'⟩ := key
 rw [e] at e'
 cases e'
 exact h' h
theorem qDb (fuel : Nat) (hf : 1500000000 < fuel) {p : qc} (hp : BkP p) {c : qe} (hc : BkC c) {e : qv} {l' : List qv} (he : qbB fuel p c = some (e :: l')) : ∃ pre f, c.fb = pre ++ [f] ∧ yE p c ∧ c.fG = false ∧ Yl (qfu fuel p c e) fun r => r.2 = 0 → zbm fuel p c pre f e r.1 := by
 obtain ⟨b, eb, hb, l, el, _, _, h3⟩ := quW fuel hf hp hc
 obtain rfl := Option.some.inj (el.symm.trans he)
 obtain ⟨ok, hfl, pre, f, hs, hg, hsub, hev⟩ := h3 e l' rfl
 refine ⟨pre, f, hs, ok, hfl, ?_⟩
 have hsl := ok.sl
 have hpl : c.fb.length = pre.length + 1 := by rw [hs, je, jp]
 unfold qfu
 rw [eb, ja]
 refine .cond (fun _ => .pure fun h => absurd h (show ¬ (2 : Int) = 0 by omega)) fun _ => .cond (fun _ => .pure fun h => absurd h (show ¬ (14 : Int) = 0 by omega)) fun _ => .cond (fun _ => .pure fun h => absurd h (show ¬ (14 : Int) = 0 by omega)) fun _ => ?_
 rw [he, ja, qbn]
 refine .bind (qwV e e) fun x hx => ?_
 rw [hx rfl, cond_true]
 refine qvj e ?_ l'
 rw [jL, cond_false, hg, ja]
 cases hev with
 | solve h1 h2 h3 =>
  rw [uT h1, cond_true]
  exact .bind (qyq fuel hf ok hs hg hsub h2 h3) fun r hr => .pure fun h => (hr h).elim (fun h => .fail h1 h) fun ⟨b, ids, h⟩ => .solve b ids h1 h2 h3 h
 | act h1 h2 h3 h4 =>
  rw [uF (show e.fa ≠ 1 by omega), cond_false, uF (show e.fa ≠ 4 by omega), cond_false, uF (show e.fa ≠ 5 by omega), cond_false, uF (show e.fa ≠ 7 by omega), cond_false, uT h1, cond_true]
  refine .bind (qAq ok.sd.st (c.fz, ⟨f.fk.n, f.fk.ts⟩) (ok.w f (by rw [hs]; simp))) fun r hr => .cond (fun _ => .pure fun h => absurd h (show ¬ (6 : Int) = 0 by omega)) fun e1 => .cond (fun _ => .pure fun h => absurd h (show ¬ (6 : Int) = 0 by omega)) fun e2 => ?_
  rw [uF (show e.fa ≠ 3 by omega), cond_false, uF (show e.fa ≠ 6 by omega), cond_false, hsub, ja, qn7 _ _ oa, ja]
  obtain ⟨⟨a1, a2⟩, a3⟩ := hr (bF e1)
  refine .pure fun _ => .act h1 h2 h3 (eF e2) a2 ok.sd.st a3 ?_
  rw [a1, h4]
 | gone h1 h2 h3 =>
  rw [uF (show e.fa ≠ 1 by omega), cond_false, uF (show e.fa ≠ 4 by omega), cond_false, uF (show e.fa ≠ 5 by omega), cond_false, uT h1, cond_true, hsub, ja]
  exact .pure fun _ => .drop h1 rfl h2 (.inl h3)
 | last a h1 h2 h3 h4 =>
  rw [uF (show e.fa ≠ 1 by omega), cond_false, uF (show e.fa ≠ 4 by omega), cond_false, uF (show e.fa ≠ 5 by omega), cond_false, uT h1, cond_true, hsub, ja]
  exact .pure fun _ => .drop h1 rfl h2 (.inr ⟨a, h3, h4⟩)
 | re h1 h2 =>
  rw [uF (show e.fa ≠ 1 by omega), cond_false, uF (show e.fa ≠ 4 by omega), cond_false, uF (show e.fa ≠ 5 by omega), cond_false, uF (show e.fa ≠ 7 by omega), cond_false, uF (show e.fa ≠ 2 by omega), cond_false, uT h1, cond_true, uF (show e.fa ≠ 6 by omega), cond_false, hsub, ja, qn7 _ _ oa, ja]
  exact .pure fun _ => .re h1 h2 rfl
 | dflt a o r h ch h1 h2 h3 h4 h5 h6 h7 h8 =>
  rw [uF (show e.fa ≠ 1 by omega), cond_false, uF (show e.fa ≠ 4 by omega), cond_false, uF (show e.fa ≠ 5 by omega), cond_false, uF (show e.fa ≠ 7 by omega), cond_false, uF (show e.fa ≠ 2 by omega), cond_false, uF (show e.fa ≠ 3 by omega), cond_false, uT h1, cond_true, hsub, ja, qn7 _ _ oa, ja]
  exact .pure fun _ => .dflt a o r h ch h1 h2 h3 h4 h5 h6 h7 h8 rfl
 | app a o r h env h1 h2 h3 h4 h5 h6 h7 h8 h9 h10 =>
  rw [uF (show e.fa ≠ 1 by omega), cond_false]
  have ap := qxG fuel hf ok hs hsub e r (by rw [h7]; exact h6.1) env h9 h10
  refine .cond (fun _ => .bind ap fun t ht => .pure fun h0 => .app a o r h env h1 h2 h3 h5 h6 h7 h8 h9 h10 (ht h0)) fun hk => ?_
  rw [uT (show e.fa = 5 by have := eF hk; omega), cond_true]
  exact .bind ap fun t ht => .pure fun h0 => .app a o r h env h1 h2 h3 h5 h6 h7 h8 h9 h10 (ht h0)
theorem zbm.bk {fuel : Nat} {p : qc} {c : qe} (hc : yE p c) {pre : List qn} {f : qn} (hs : c.fb = pre ++ [f]) {e : qv} {t : qe} (h : zbm fuel p c pre f e t) : BkC t := by
 have hpw : ∀ x ∈ pre, wtL x.fk.ts ≤ 1000000000 := fun x hx => by have := hc.w x (by rw [hs]; exact jr _ hx); omega
 have hfw : wtL f.fk.ts ≤ 1000000000 := by have := hc.w f (by rw [hs]; simp); omega
 obtain ⟨k1, k2, k3, k4⟩ := hc.bk
 have snoc : ∀ g : qn, wtL g.fk.ts ≤ 1000000000 → ∀ x ∈ pre ++ [g], wtL x.fk.ts ≤ 1000000000 := fun g hg x hx => by
  rcases jl.1 hx with hx | hx
  exact hpw x hx
  rw [jn.1 hx]
  exact hg
 cases h with
 | fail _ h =>
  subst h
  exact ⟨hpw, k2, k3, k4⟩
 | solve b ids _ _ _ h =>
  refine ⟨fun x hx => ?_, fun q hq => ?_, fun q hq => ?_, ?_⟩
  rw [h.st] at hx
  rcases jl.1 hx with hx | hx
  obtain ⟨y, hy, rfl⟩ := jx.1 hx
  unfold apF
  split
  rename_i h0
  have := (qhc (h.r y hy h0)).2
  show wtL (apG b y.fk).ts ≤ _
  omega
  exact hpw y hy
  obtain ⟨i, _, rfl⟩ := jx.1 hx
  simp [zbe, wtL]
  have := (qgj (h.ok.a q hq)).2.1
  omega
  rw [h.bb] at hq
  have := h.w q hq
  omega
  rw [h.bb]
  have := h.l
  omega
 | app a o r hd env _ _ _ _ _ _ _ _ _ h =>
  refine ⟨fun x hx => ?_, fun q hq => ?_, by rw [h.bb]; exact k3, by rw [h.bb]; exact k4⟩
  rw [h.st] at hx
  rcases jl.1 hx with hx | hx
  split at hx
  exact hpw x hx
  exact k1 x hx
  obtain ⟨g, hg, rfl⟩ := jx.1 hx
  rw [vO] at hg
  obtain ⟨g', hg', rfl⟩ := jx.1 hg
  have := (qhc (h.g g' hg')).2
  show wtL (inG _ g').ts ≤ _
  omega
  rw [h.s] at hq
  exact k2 q (qCm _ _ q hq)
 | drop _ h =>
  subst h
  exact ⟨hpw, k2, k3, k4⟩
 | act _ _ _ _ hr _ _ h =>
  subst h
  refine ⟨snoc _ (by simp [wtL]), fun q hq => ?_, k3, k4⟩
  rcases jl.1 hq with hq | hq
  exact k2 q hq
  rw [jn.1 hq]
  exact hfw
 | re _ _ h =>
  subst h
  exact ⟨snoc _ hfw, k2, k3, k4⟩
 | dflt _ _ _ _ _ _ _ _ _ _ _ _ _ h =>
  subst h
  exact ⟨snoc _ hfw, k2, k3, k4⟩
/-! ### a run -/
theorem qCg (fuel : Nat) (hf : 1500000000 < fuel) {p : qc} (hp : BkP p) (most : Int) (I : qe → List qv → Prop)
 (hI : ∀ c out e pre f t, yE p c → c.fG = false → c.fb = pre ++ [f] → I c out → zbm fuel p c pre f e t → I t (out ++ [e])) :
 ∀ (n : Nat) (out : List qv) (c : qe), (most - (out.length : Int)).toNat < n → out.length + n ≤ 9000000000 → BkC c → I c out → Yl (qc5 fuel most p n out c) fun r => I r.1 r.2.1 ∧ BkC r.1 ∧ (r.2.2 = 0 → qbB fuel p r.1 = some [])
 | 0, out, c, h1, _, _, _ => absurd h1 (vh _)
 | n + 1, out, c, h1, h2, h3, hi => by
  rw [qc5]
  refine .bind (qDk fuel hf hp h3) fun r hr => .cond (fun h => .pure ⟨hi, h3, fun _ => hr.2 (nT h)⟩) fun h => .cond (fun _ => .pure ⟨hi, h3, fun h => absurd h (show ¬ (15 : Int) = 0 by omega)⟩) fun h4 => ?_
  have h4 := dF h4
  obtain ⟨l', he⟩ := hr.1 (nF h)
  obtain ⟨pre, f, hs, ok, hfl, hd⟩ := qDb fuel hf hp h3 he
  refine .bind hd fun t ht => .cond (fun h5 => .pure ⟨hi, h3, fun h6 => absurd h6 (bT h5)⟩) fun h5 => ?_
  have st := ht (bF h5)
  rw [qf9 oa (n := n) oa, ja]
  exact qCg fuel hf hp most I hI n _ t.1 (by rw [je, jp]; omega) (by rw [je, jp]; omega) (st.bk ok hs) (hI c out r.1 pre f t.1 ok hfl hs hi st)
mutual
theorem qB8 : ∀ t : T, zM t = true → ∀ x ∈ yh t, 0 ≤ x ∧ x ≤ 1048576
 | .mk k i s ar, h, x, hx => by
  by_cases h1 : k = 1
  subst h1
  rw [qst (t := .mk 1 i s ar) rfl] at hx
  rw [jn.1 hx]
  rw [zM, if_neg oa, if_pos rfl] at h
  exact ⟨(of_decide_eq_true h).1, (of_decide_eq_true h).2.1⟩
  by_cases h2 : k = 2
  subst h2
  rw [qsN (t := .mk 2 i s ar) rfl] at hx
  rw [qnn rfl, jj] at h
  exact qrc ar h.2 x hx
  rw [yh, if_neg h1, if_neg h2] at hx
  cases hx
theorem qrc : ∀ l : List T, zL l = true → ∀ x ∈ zu l, 0 ≤ x ∧ x ≤ 1048576
 | [], _, x, hx => by simp [zu] at hx
 | t :: l, h, x, hx => by
  rw [zL, jj] at h
  rw [zu] at hx
  rcases jl.1 hx with hx | hx
  exact qB8 t h.1 x hx
  exact qrc l h.2 x hx
end
/-! ### layer 15: declared names -/
def zaf (ds : List qB) (s : ByteArray) (n : Int) : Prop := ∃ d ∈ ds, d.fA = s ∧ d.fI = n
theorem qwU (s : ByteArray) (n : Int) : ∀ l : List qB, Yl (qU (some false) n s l) fun b => b = true ↔ zaf l s n
 | [] => by
  rw [qU]
  exact .pure ⟨fun h => (by cases h), fun ⟨d, h, _⟩ => by cases h⟩
 | d :: l => by
  have up : zaf l s n → zaf (d :: l) s n := fun ⟨x, h, e⟩ => ⟨x, jf _ h, e⟩
  rw [qU]
  have next := fun (hn : ¬ (d.fA = s ∧ d.fI = n)) => (qwU s n l).mono fun b hb => (⟨fun h => up (hb.1 h), fun ⟨x, h, e⟩ => by
   rcases jh.1 h with rfl | h
   exact absurd e hn
   exact hb.2 ⟨x, h, e⟩⟩ : b = true ↔ zaf (d :: l) s n)
  refine .cond (fun h1 => .cond (fun h2 => .pure ⟨fun _ => ⟨d, jd .., sT h1, eT h2⟩, fun _ => rfl⟩) fun h2 => next fun h => eF h2 h.2) fun h1 => next fun h => sF h1 h.1
theorem qBu (l : List qB) (s : ByteArray) (n : Int) : Yl (qcn l s n) fun b => b = true ↔ zaf l s n := qwU s n l
theorem qvO (l : List qB) (s : ByteArray) (n : Int) : Yl (qdu l s n) fun e => e = 0 → zaf l s n := by
 have main : ∀ (k : Int → Option Int) (_ : ∀ e, (e = 7 ∨ e = 9) → Yl (k e) fun e => e = 0 → zaf l s n) (m : List qB) (e : Int), (e = 7 ∨ e = 9) → Yl (qZ k s m e) fun e => e = 0 → zaf l s n := fun k hk m => by
  induction m with
  | nil => intro e he; rw [qZ]; exact hk e he
  | cons d m ih =>
   intro e he
   rw [qZ]
   exact .cond (fun _ => ih 9 (.inr rfl)) fun _ => ih e he
 exact main _ (fun e he => .bind (qBu l s n) fun b hb => .cond (fun h => .pure fun _ => hb.1 h) fun _ => .pure fun h => by omega) l 7 (.inl rfl)
theorem qu5 (ds : List qB) : ∀ l : List Gl, Yl (qag (some 0) ds l) fun e => e = 0 → ∀ g ∈ l, g.op = 0 → zaf ds g.n (g.ts.length : Int)
 | [] => by rw [qag]; exact .pure fun _ g h => by cases h
 | g :: l => by
  rw [qag]
  have next := fun (h0 : g.op = 0 → zaf ds g.n (g.ts.length : Int)) => (qu5 ds l).mono fun e he h x hx => (jh.1 hx).elim (fun e => e ▸ h0) (he h x)
  exact .cond (fun h => next fun h' => absurd h' (bT h)) fun _ => .bind (qvO ds _ _) fun e he => .cond (fun h => .pure fun h' => absurd h' (bT h)) fun h => next fun _ => he (bF h)
theorem qDm (n : Int) : Yl (qcB n) fun b => b = false → n < 5 ∨ 12 < n := by
 unfold qcB
 exact .cond (fun _ => .pure fun h => by have := dF h; omega) fun h => .pure fun _ => by have := dF h; omega
structure zb0 (ds : List qB) (vars : Int) (l : List Gl) : Prop where
 n : l.length ≤ 40
 g : ∀ g ∈ l, zy g = true
 c : ∀ g ∈ l, g.op = 0 → zaf ds g.n (g.ts.length : Int)
 t : ∀ g ∈ l, g.op ≤ 4
 v : ∀ g ∈ l, ∀ x ∈ zu g.ts, x < vars
theorem qxp {Q : Int → Prop} (hQ : Q 17) {k : Option Int} (vars : Int) : ∀ l : List Int, ((∀ x ∈ l, x < vars) → Yl k Q) → Yl (qaC k vars l) Q
 | [], hk => by rw [qaC]; exact hk fun x h => by cases h
 | x :: l, hk => by
  rw [qaC]
  refine .cond (fun _ => .pure hQ) fun h => qxp hQ vars l fun hl => hk fun y hy => ?_
  have h := dF h
  rcases jh.1 hy with rfl | hy
  omega
  exact hl y hy
theorem qwA (fuel : Nat) (hf : 1000000000 < fuel) (vars : Int) : ∀ l : List Gl, (∀ g ∈ l, wtL g.ts ≤ 200) → Yl (qaA (some 0) fuel vars l) fun e => e = 0 → ∀ g ∈ l, ∀ x ∈ zu g.ts, x < vars
 | [], _ => by rw [qaA]; exact .pure fun _ g h => by cases h
 | g :: l, hw => by
  have hg := hw g (jd ..)
  rw [qaA]
  unfold qcm
  rw [qnq fuel g.ts oa oa, ja, ja]
  refine qxp (fun h => by omega) vars _ fun h => (qwA fuel hf vars l fun x hx => hw x (jf _ hx)).mono fun e he h0 x hx => ?_
  rcases jh.1 hx with rfl | hx
  exact fun y hy => h y (qjM.2 (.inr hy))
  exact he h0 x hx
theorem qwq {Q : Int → Prop} (hQ : Q 10) {k : Option Int} : ∀ l : List Gl, ((∀ g ∈ l, g.op < 5 ∨ 12 < g.op) → Yl k Q) → Yl (qaz k l) Q
 | [], hk => by rw [qaz]; exact hk fun x h => by cases h
 | g :: l, hk => by
  rw [qaz]
  refine .bind (qDm _) fun b hb => .cond (fun _ => .pure hQ) fun h => qwq hQ l fun hl => hk fun y hy => ?_
  rcases jh.1 hy with rfl | hy
  exact hb h
  exact hl y hy
theorem qwB {Q : Int → Prop} (hQ : Q 2) {k : Option Int} : ∀ l : List Gl, (∀ a ∈ l, wtL a.ts ≤ 1000000000) → ((∀ a ∈ l, zy a = true) → Yl k Q) → Yl (qaB k l) Q
 | [], _, hk => by rw [qaB]; exact hk fun a h => by cases h
 | a :: l, hw, hk => by
  rw [qaB, qh5 a (by have := hw a (jd ..); omega), ja]
  refine .cond (fun _ => .pure hQ) fun h => qwB hQ l (fun b hb => hw b (jf _ hb)) fun hl => hk fun b hb => ?_
  rcases jh.1 hb with rfl | hb
  exact nF h
  exact hl b hb
theorem qBy (fuel : Nat) (hf : 1000000000 < fuel) (ds : List qB) (l : List Gl) (vars : Int) (hw : ∀ a ∈ l, wtL a.ts ≤ 1000000000) : Yl (qdC fuel ds l vars) fun e => e = 0 → zb0 ds vars l := by
 unfold qdC
 refine .cond (fun _ => .pure fun h => absurd h (show ¬ (6 : Int) = 0 by omega)) fun hl => .cond (fun _ => .pure fun h => absurd h (show ¬ (6 : Int) = 0 by omega)) fun _ => .cond (fun _ => .pure fun h => absurd h (show ¬ (6 : Int) = 0 by omega)) fun _ => ?_
 have hl := dF hl
 refine qwB (fun h => by omega) l hw fun hg => .bind (qu5 ds l) fun e he => .cond (fun h => .pure fun h' => absurd h' (bT h)) fun h => qwq (fun h => by omega) l fun ht => (qwA fuel hf vars l fun g hg' => (qhc (hg g hg')).2).mono fun e' he' h0 => ?_
 exact ⟨by omega, hg, he (bF h), fun g hg' => by have := ht g hg'; have := qu8 (hg g hg'); omega, he' h0⟩
/-! ### the first state -/
theorem qwx (k : List qn → Option qe) (goals : List Gl) : ∀ (n : Nat) (st : List qn), n ≤ goals.length → st.length + n ≤ 1000000000 → qbQ k goals n st = k (st ++ (goals.take n).reverse.map y9)
 | 0, st, _, _ => by rw [qbQ]; simp
 | n + 1, st, h, hl => by
  obtain ⟨x, hx, _⟩ := yo (l := goals) (i := (n : Int)) oa oa
  rw [qbQ, hx, ja, qf9 oa (n := n) oa, ja, qwx k goals n _ oa (by rw [je, jp]; omega)]
  congr 1
  exact qvR y9 n oa hx st
theorem qBo (goals : List Gl) (hl : goals.length ≤ 1000) (vars : Int) (hv : 0 ≤ vars) : qeK goals vars = some ⟨goals.reverse.map y9, [], [], [], 1, vars, false⟩ := by
 unfold qeK qe6
 rw [decide_eq_false oa, cond_false]
 dsimp only
 rw [qpC oa, ja, qwx _ goals goals.length [] (jk _) oe, vM, jo]
/-! ### a rule that decreases has no equation -/
def PT (x : Option Bool) (Q : Prop) : Prop := x = some true → Q
theorem PT.no {Q : Prop} : PT (some false) Q := fun h => by cases h
theorem PT.bind {α : Type} {x : Option α} {f : α → Option Bool} {Q : Prop} (h : ∀ a, PT (f a) Q) : PT (x.bind f) Q := fun e => by
 obtain ⟨a, _, ha⟩ := jN.1 e
 exact h a ha
theorem PT.cond {b : Bool} {x y : Option Bool} {Q : Prop} (h1 : b = true → PT x Q) (h2 : b = false → PT y Q) : PT (bif b then x else y) Q := by
 cases b with
 | true => exact h1 rfl
 | false => exact h2 rfl
theorem qwQ {Q : Prop} {k : Int → List (Int × Int) → Option Bool} (hk : ∀ c m, PT (k c m) Q) (fuel : Nat) (ranks : List qh) : ∀ (l : List At) (c : Int) (m : List (Int × Int)), PT (q9 k fuel ranks l c m) Q
 | [], c, m => by rw [q9]; exact hk c m
 | a :: l, c, m => by
  rw [q9]
  exact .bind fun r => .cond (fun _ => .no) fun _ => qwQ hk fuel ranks l _ _
theorem qtl {Q : Prop} {k : Option Bool} (hk : PT k Q) (r : List (Int × Bool) × List (Int × Bool)) : ∀ l : List Int, PT (qae k r l) Q ∧ PT (qaD k r l) Q
 | [] => by rw [qae, qaD]; exact ⟨hk, hk⟩
 | x :: l => by
  have := qtl hk r l
  rw [qae, qaD]
  exact ⟨.cond (fun _ => .cond (fun _ => .no) fun _ => this.1) fun _ => this.1, .cond (fun _ => .cond (fun _ => .no) fun _ => this.2) fun _ => this.2⟩
theorem qoa (k : Int → List (Int × Int) → Option Bool) (fuel : Nat) (r : List (Int × Bool) × List (Int × Bool)) (rule : qr) (ranks : List qh) : ∀ (l : List Gl) (c : Int) (m : List (Int × Int)), PT (qJ k fuel r rule ranks l c m) (∀ g ∈ l, g.op ≠ 3)
 | [], c, m => fun _ g h => by cases h
 | g :: l, c, m => by
  have up : ∀ {x}, g.op ≠ 3 → PT x (∀ g ∈ l, g.op ≠ 3) → PT x (∀ x ∈ g :: l, x.op ≠ 3) := fun h0 h e x hx => (jh.1 hx).elim (fun e => e ▸ h0) (h e x)
  rw [qJ]
  refine .cond (fun _ => .no) fun h3 => up (eF h3) (.cond (fun _ => .cond (fun _ => .no) fun _ => .cond (fun _ => qoa k fuel r rule ranks l _ _) fun _ => .bind fun vs => (qtl ?_ r vs).1) fun _ => .cond (fun _ => qoa k fuel r rule ranks l _ _) fun _ => .bind fun vs => (qtl ?_ r vs).2)
  exact .bind fun r2 => .cond (fun _ => .no) fun _ => qoa k fuel r rule ranks l _ _
  exact .bind fun r2 => .cond (fun _ => .no) fun _ => qoa k fuel r rule ranks l _ _
theorem nouni (fuel : Nat) (ranks : List qh) (r : qr) : PT (qeN fuel ranks r) (∀ g ∈ r.fg, g.op ≠ 3) := by
 unfold qeN
 exact .bind fun r1 => qwQ (fun c m => qoa _ fuel r1 r ranks r.fg c m) fuel ranks _ _ _
/-! ### what the check of a ranking tells -/
structure RkOk (p : qc) (ranks : List qh) : Prop where
 v : ranks.all zR = true
 d : ∀ r ∈ p.fd, zaW ranks r
 u : ∀ r ∈ p.fd, ∀ g ∈ r.fg, g.op ≠ 3
 f : ∀ d ∈ p.fx, (zP ranks d.fA d.fI).2 = true
theorem qxT (fuel : Nat) (hf : 1048577 ≤ fuel) (p : qc) (ranks : List qh) (h : ∀ r ∈ p.fd, Br r) : Yl (qg4 fuel p ranks) fun e => e = 0 → RkOk p ranks := by
 obtain ⟨e, he, h1⟩ := qzA fuel hf p ranks h
 refine ⟨e, he, fun h0 => ?_⟩
 have h3 := h1 h0
 subst h0
 rw [qg4, qwM, ja, h3.1, jL, cond_false] at he
 have l1 : ∀ l : List qr, qbW (some 0) fuel ranks l = some 0 → ∀ r ∈ l, ∀ g ∈ r.fg, g.op ≠ 3 := fun l => by
  induction l with
  | nil => intro _ r h; cases h
  | cons r l ih =>
   intro h
   rw [qbW] at h
   obtain ⟨b, hb, h⟩ := jN.1 h
   cases b with
   | false => cases h
   | true => exact fun x hx => (jh.1 hx).elim (fun e => e ▸ nouni fuel ranks r hb) (ih h x)
 have l0 : ∀ l : List qB, qbc (qbW (some 0) fuel ranks p.fd) ranks l = some 0 → (∀ d ∈ l, (zP ranks d.fA d.fI).2 = true) ∧ qbW (some 0) fuel ranks p.fd = some 0 := fun l => by
  induction l with
  | nil =>
   intro h
   rw [qbc] at h
   exact ⟨fun d h => (by cases h), h⟩
  | cons d l ih =>
   intro h
   rw [qbc, qwb, ja] at h
   cases hd : (zP ranks d.fA d.fI).2 with
   | false =>
    rw [hd] at h
    cases h
   | true =>
    rw [hd] at h
    exact ⟨fun x hx => (jh.1 hx).elim (fun e => e ▸ hd) ((ih h).1 x), (ih h).2⟩
 have := l0 _ he
 exact ⟨h3.1, h3.2, l1 _ this.2, this.1⟩
/-! ### the search for a ranking -/
theorem qyw {most : Int} : ∀ l : List Int, inR most l → za0 (most.toNat + 1) l < (most.toNat + 1) ^ l.length
 | [], _ => by simp [za0]
 | d :: l, h => by
  have h1 := qyw l fun x hx => h x (jf _ hx)
  have h2 := h d (jd ..)
  simp only [za0, jg, Nat.pow_succ]
  have h3 : d.toNat * (most.toNat + 1) ^ l.length ≤ most.toNat * (most.toNat + 1) ^ l.length := jM _ oa
  have h4 : (most.toNat + 1) ^ l.length * (most.toNat + 1) = most.toNat * (most.toNat + 1) ^ l.length + (most.toNat + 1) ^ l.length := by rw [Nat.mul_comm, Nat.succ_mul]
  omega
theorem zbn (fuel : Nat) (hf : 1048577 ≤ fuel) (most : Int) (h0 : 0 ≤ most) (h1 : most ≤ 1000) (p : qc) (hr : ∀ r ∈ p.fd, Br r) (hd : p.fx.length ≤ 1000000) : ∀ (n : Nat) (l : List Int), inR most l → l.length ≤ 1000000 → (most.toNat + 1) ^ l.length < n + za0 (most.toNat + 1) l → Yl (qbU (some ([], 13)) fuel most p n l true) fun r => r.2 = 0 → RkOk p r.1
 | 0, l, hi, _, hB => by
  have := qyw l hi
  omega
 | n + 1, l, hi, hl, hB => by
  rw [qbU, cond_true, pRanks _ _ hd, ja]
  refine .bind (qxT fuel hf p _ hr) fun e he => .cond (fun h => .pure fun _ => he (eT h)) fun _ => ?_
  rw [pNext most l hl, ja, zbZ, qDq hi, if_neg og]
  rcases qy2 h0 h1 l hi with ⟨g1, g2⟩ | ⟨r, g1, g2, g3, g4⟩
  rw [g1]
  obtain ⟨n, rfl⟩ : ∃ m, n = m + 1 := ⟨n - 1, by omega⟩
  rw [qbU, cond_false]
  exact .pure fun h => absurd h (show ¬ (13 : Int) = 0 by omega)
  rw [g1]
  exact zbn fuel hf most h0 h1 p hr hd n r g3 oa (by rw [g2, g4]; omega)
theorem qwu : ∀ (l : List qB) (n : Int), 0 ≤ n → n + 7 * (l.length : Int) ≤ 1000000 → Yl (qcU (fun n => some (n, true)) l n) fun r => 0 ≤ r.1
 | [], n, h, _ => by rw [qcU]; exact .pure h
 | d :: l, n, h, hl => by
  rw [jg] at hl
  rw [qcU]
  refine .cond (fun _ => .pure (jX _)) fun h1 => .cond (fun _ => .pure (jX _)) fun h2 => ?_
  have h1 := dF h1
  have h2 := dF h2
  rw [qgA (n := 1 + d.fI) oa, qgA oa]
  exact qwu l _ oa oa
theorem qyu (fuel : Nat) (hf : 1048577 ≤ fuel) (p : qc) (hr : ∀ r ∈ p.fd, Br r) (hd : p.fx.length ≤ 1000) (most : Int) : Yl (qep fuel p most) fun r => r.2 = 0 → RkOk p r.1 := by
 unfold qep qhj
 refine .bind (qwu _ 0 (jX _) oa) fun c hc => .cond (fun _ => .pure fun h => absurd h (show ¬ (2 : Int) = 0 by omega)) fun _ => .cond (fun _ => .pure fun h => absurd h (show ¬ (6 : Int) = 0 by omega)) fun h1 => .cond (fun _ => .pure fun h => absurd h (show ¬ (6 : Int) = 0 by omega)) fun h2 => .cond (fun _ => .pure fun h => absurd h (show ¬ (6 : Int) = 0 by omega)) fun h3 => ?_
 have h1 := dF h1
 have h2 := dF h2
 have h3 := dF h3
 rw [zai, if_pos oa, ja]
 refine zbn fuel hf most oa oa p hr oa fuel _ (qw6 oa _) oe ?_
 rw [qqp, List.length_replicate]
 have : (most.toNat + 1) ^ c.1.toNat ≤ 65536 := vt (Nat.pow_le_pow_left (show most.toNat + 1 ≤ 4 by omega) _) (Nat.pow_le_pow_right oa (show c.1.toNat ≤ 8 by omega))
 omega
/-! ### the total -/
theorem qyJ (x : qh) (h : zR x = true) : qeO x = some true := by
 unfold zR at h
 simp only [jj, jv, decide_eq_true_eq] at h
 have h1 := qua h.1.1
 have main : ∀ l : List Int, (∀ n ∈ l, zbO n = true) → qbJ (some true) l = some true := fun l => by
  induction l with
  | nil => intro _; rw [qbJ]
  | cons n l ih =>
   intro h
   have hn := qua (h n (jd ..))
   rw [qbJ, decide_eq_false oa, cond_false, decide_eq_false oa, cond_false]
   exact ih fun x hx => h x (jf _ hx)
 unfold qeO
 rw [decide_eq_false oa, cond_false, decide_eq_false oa, cond_false, decide_eq_false (by have := h.1.2; omega), cond_false]
 exact main _ h.2
theorem qzH (ranks : List qh) (h : ranks.all zR = true) : qeQ ranks = some true := by
 unfold qeQ
 rw [jv] at h
 induction ranks with
 | nil => rw [qcp]
 | cons x l ih =>
  rw [qcp, qyJ x (h x (jd ..)), ja]
  exact ih fun y hy => h y (jf _ hy)
def yJ (g : Gl) : At := ⟨g.n, g.ts⟩
theorem qpN {ranks : List qh} (hv : ranks.all zR = true) : ∀ l : List Gl, 0 ≤ yw ranks l
 | [] => by simp [yw]
 | g :: l => by
  have h1 := (qz7 hv g.n (g.ts.map zp)).1
  have h2 := qpN hv l
  rw [yw]
  split <;> omega
theorem qxx {ranks : List qh} (hv : ranks.all zR = true) : ∀ l : List (Int × At), 0 ≤ yY ranks l
 | [] => by simp [yY]
 | q :: l => by
  have h1 := (qz7 hv q.2.n (q.2.ts.map zp)).1
  have h2 := qxx hv l
  rw [yY]
  omega
theorem qwY (fuel : Nat) (hf : 1000000000 < fuel) {p : qc} {ranks : List qh} (hk : RkOk p ranks) : ∀ (l : List Gl) (n : Int), (∀ g ∈ l, g.op = 0 ∧ zy g = true ∧ zaf p.fx g.n (g.ts.length : Int) ∧ ∀ x ∈ zu g.ts, x < 0) → 0 ≤ n → n + 300000000 * (l.length : Int) ≤ 1000000000000 → qbP (fun n => some (n, 0)) fuel ranks (l.map yJ) n = some (n + yw ranks l, 0)
 | [], n, _, _, _ => by rw [j7, qbP, yw, vE]
 | g :: l, n, hg, h0, hl => by
  rw [jg] at hl
  obtain ⟨hop, hr, ⟨d, hd, e1, e2⟩, hx⟩ := hg g (jd ..)
  have hra : zA (yJ g) = true := by
   unfold zy at hr
   rw [if_pos hop] at hr
   exact hr
  have hw := (qgj hra).2.1
  have hwg : wtL g.ts ≤ 200 := hw
  have hf' := hk.f d hd
  rw [e1, e2] at hf'
  have hno : yj [] (zu (yJ g).ts) = [] := by
   cases hu : yj [] (zu (yJ g).ts) with
   | nil => rfl
   | cons x xs =>
    have hm : x ∈ zu g.ts := by
     have : x ∈ yj [] (zu (yJ g).ts) := by rw [hu]; exact jd ..
     exact (qjM.1 this).elim (fun h => by cases h) id
    have := (qrc g.ts (qhc hr).1 x hm).1
    have := hx x hm
    omega
  have hb := qxu hk.v g.n hwg
  rw [jm, qbP, qh4 _ oa, hra, ja, jL, cond_false, qoT, ja]
  rw [show (zP ranks (yJ g).n ((yJ g).ts.length : Int)).2 = true from hf', jL, cond_false, qvm fuel _ oa oa, ja, hno, decide_eq_false og, cond_false, qx0 hk.v _ _ hw, ja]
  rw [show rkN ranks (yJ g).n ((yJ g).ts.map zp) = rkN ranks g.n (g.ts.map zp) from rfl, qgA oa, qwY fuel hf hk l _ (fun x hx => hg x (jf _ hx)) oa oa, yw, if_pos hop]
  congr 2
  omega
/-! ### the measure of a state of a run -/
def zB (l : List qn) : List Gl := l.filterMap fun f => if f.fc = 0 then some f.fk else none
theorem qmJ (a b : List qn) : zB (a ++ b) = zB a ++ zB b := List.filterMap_append ..
theorem qng : ∀ l : List Gl, zB (l.map y9) = l
 | [] => rfl
 | g :: l => by
  have := qng l
  unfold zB at this ⊢
  rw [jm, j6, this]
  rfl
theorem qo3 : ∀ l : List Int, (∀ x ∈ l, x ≠ 0) → zB (l.map zbe) = []
 | [], _ => rfl
 | x :: l, h => by
  have := qo3 l fun y hy => h y (jf _ hy)
  unfold zB at this ⊢
  rw [jm, j6, this, if_neg (show ¬ (zbe x).fc = 0 from h x (jd ..))]
theorem qss (b : En) : ∀ l : List qn, zB (l.map (apF b)) = (zB l).map (apG b)
 | [] => rfl
 | f :: l => by
  have := qss b l
  unfold zB at this ⊢
  rw [jm, j6, j6, this]
  unfold apF
  by_cases h : f.fc = 0
  rw [if_pos h, if_pos h, if_pos h]
  rfl
  rw [if_neg h, if_neg h]
theorem qqS (f : qn) : zB [f] = if f.fc = 0 then [f.fk] else [] := by
 unfold zB
 rw [j6, List.filterMap_nil]
 by_cases h : f.fc = 0
 rw [if_pos h, if_pos h]
 rw [if_neg h, if_neg h]
theorem qvV {l : List qn} {g : Gl} (h : g ∈ zB l) : ∃ f ∈ l, f.fc = 0 ∧ f.fk = g := by
 obtain ⟨f, hf, e⟩ := List.mem_filterMap.1 h
 split at e
 exact ⟨f, hf, by assumption, Option.some.inj e⟩
 cases e
theorem qsW (ranks : List qh) : ∀ l : List Gl, yw ranks l.reverse = yw ranks l
 | [] => rfl
 | g :: l => by rw [List.reverse_cons, qpD, qsW ranks l, yw, yw, yw]; omega
noncomputable def y6 (p : qc) : List qv → Int
 | [] => 0
 | e :: l => (if (e.fa = 4 ∨ e.fa = 5) ∧ ∃ r, zi p.fd e.fJ = some r ∧ r.ff ≠ [] then 1 else 0) + y6 p l
theorem qub (p : qc) : ∀ a b : List qv, y6 p (a ++ b) = y6 p a + y6 p b
 | [], b => by rw [jo, y6, Int.zero_add]
 | e :: a, b => by rw [jB, y6, y6, qub p a b]; omega
theorem qv8 (p : qc) : ∀ l : List qv, 0 ≤ y6 p l
 | [] => by simp [y6]
 | e :: l => by
  have := qv8 p l
  rw [y6]
  split <;> omega
structure RunI (p : qc) (ranks : List qh) (total : Int) (c : qe) (out : List qv) : Prop where
 u : ∀ g ∈ zB c.fb, g.op ≠ 3
 r : ∀ e ∈ out, (e.fa = 4 ∨ e.fa = 5) → ∃ r, zi p.fd e.fJ = some r
 s : y6 p out + (yY ranks c.fo + yw ranks (zB c.fb)) ≤ total
theorem qAe {fuel : Nat} {p : qc} {ranks : List qh} (hk : RkOk p ranks) {total : Int} {c : qe} {out : List qv} {e : qv} {pre : List qn} {f : qn} {t : qe} (hc : yE p c) (hs : c.fb = pre ++ [f]) (hi : RunI p ranks total c out) (h : zbm fuel p c pre f e t) : RunI p ranks total t (out ++ [e]) := by
 have hu := hi.u
 have hsum := hi.s
 rw [hs, qmJ, qqS] at hu hsum
 have hup : ∀ g ∈ zB pre, g.op ≠ 3 := fun g hg => hu g (jr _ hg)
 rw [qpD] at hsum
 have hfn : 0 ≤ yw ranks (if f.fc = 0 then [f.fk] else []) := qpN hk.v _
 have keepR : (e.fa ≠ 4 ∧ e.fa ≠ 5) → ∀ x ∈ out ++ [e], (x.fa = 4 ∨ x.fa = 5) → ∃ r, zi p.fd x.fJ = some r := fun hne x hx hk => by
  rcases jl.1 hx with hx | hx
  exact hi.r x hx hk
  rw [jn.1 hx] at hk
  omega
 have cnt0 : (e.fa ≠ 4 ∧ e.fa ≠ 5) → y6 p (out ++ [e]) = y6 p out := fun hne => by
  rw [qub, y6, y6, if_neg (fun h => by omega)]
  omega
 have same : ∀ st : List qn, (e.fa ≠ 4 ∧ e.fa ≠ 5) → zB st = zB pre → t.fb = st → t.fo = c.fo → RunI p ranks total t (out ++ [e]) := fun st hne h1 h2 h3 => by
  refine ⟨by rw [h2, h1]; exact hup, keepR hne, ?_⟩
  rw [cnt0 hne, h3, h2, h1]
  omega
 have snoc : ∀ g : qn, g.fc ≠ 0 → zB (pre ++ [g]) = zB pre := fun g hg => by
  rw [qmJ, qqS, if_neg hg, js]
 cases h with
 | fail h1 h =>
  subst h
  exact same pre oa rfl rfl rfl
 | solve b ids h1 h2 h3 h =>
  rw [if_pos h2] at hsum hu
  have hop : f.fk.op ≠ 3 := hu _ (jz _ (jn.2 rfl))
  have hg := h.g hop
  have e1 : zB t.fb = (zB pre).map (apG b) := by
   rw [h.st, qmJ, qss, qo3, js]
   intro x hx
   obtain ⟨a, ha⟩ := h.id x (vO.1 hx)
   have := hc.sd.st.p _ ha
   dsimp only at this
   omega
  refine ⟨fun g hg => ?_, keepR oa, ?_⟩
  rw [e1] at hg
  obtain ⟨g', hg', rfl⟩ := jx.1 hg
  exact hup g' hg'
  rw [cnt0 oa, e1, h.s, qxq ranks hg _ hc.sd.fr, qwj ranks hg _ fun g hg => ?_]
  rw [yw, yw, if_neg h3] at hsum
  omega
  obtain ⟨x, hx, hx0, rfl⟩ := qvV hg
  exact (hc.f x (by rw [hs]; exact jr _ hx) hx0).2.2
 | app a o r hd env h1 h2 h3 h4 h5 h6 h7 h8 h9 h =>
  rw [if_neg h2] at hsum
  have hr : zi p.fd e.fJ = some r := by rw [h6]; exact h5.1
  have hrm := qfM hr
  have hst : zB t.fb = zB pre ++ (r.fg.map (inG (ef env c.fE))).reverse := by
   rw [h.st, qmJ, qng]
   congr 1
   split
   rfl
   rw [hs]
   exact snoc f h2
  have ap := qCS (hk.d r hrm) hc.sd.st.s h9 c.fE
  refine ⟨fun g hg => ?_, fun x hx hxk => ?_, ?_⟩
  rw [hst] at hg
  rcases jl.1 hg with hg | hg
  exact hup g hg
  obtain ⟨g', hg', rfl⟩ := jx.1 (vO.1 hg)
  exact hk.u r hrm g' hg'
  rcases jl.1 hx with hx | hx
  exact hi.r x hx hxk
  rw [jn.1 hx]
  exact ⟨r, hr⟩
  rw [qub, y6, y6, hst, qpD, qsW, h.s]
  rw [yw] at hsum
  by_cases hR : r.ff = []
  obtain ⟨a1, a2⟩ := ap.1 hR
  rw [a1, a2, if_neg fun ⟨_, r', hr', hn⟩ => by
   obtain rfl := Option.some.inj (hr.symm.trans hr')
   exact hn hR]
  omega
  have a1 := ap.2 hR
  rw [if_pos ⟨by omega, r, hr, hR⟩]
  omega
 | drop h1 h h2 _ =>
  subst h
  exact same pre oa rfl rfl rfl
 | act h1 h2 h3 h4 h5 h6 h7 h =>
  subst h
  have hn := hc.sd.n1
  rw [if_pos h2] at hsum
  refine ⟨by rw [snoc _ (by show c.fz ≠ 0; omega)]; exact hup, keepR oa, ?_⟩
  rw [cnt0 oa]
  dsimp only
  rw [snoc _ (by show c.fz ≠ 0; omega), qwW, yY, yY]
  rw [yw, yw, if_pos h3] at hsum
  dsimp only
  omega
 | re h1 h2 h =>
  subst h
  exact same _ oa (snoc ⟨f.fk, f.fc, 0⟩ h2) rfl rfl
 | dflt _ _ _ _ _ h1 h2 _ _ _ _ _ _ h =>
  subst h
  exact same _ oa (snoc ⟨f.fk, f.fc, wr (f.fu + 1)⟩ h2) rfl rfl
theorem qtV (p : qc) (k : Int → Option Bool) : ∀ (l : List qv) (n : Int), (∀ e ∈ l, (e.fa = 4 ∨ e.fa = 5) → ∃ r, zi p.fd e.fJ = some r) → 0 ≤ n → n + y6 p l ≤ 1000000000000 → qA k p l n = k (n + y6 p l)
 | [], n, _, _, _ => by rw [qA, y6, vE]
 | e :: l, n, he, h0, hn => by
  have hn0 := qv8 p l
  have he' := fun x hx => he x (jf e hx)
  rw [y6] at hn ⊢
  rw [qA]
  have one : ∀ r, zi p.fd e.fJ = some r → (e.fa = 4 ∨ e.fa = 5) → (bif (decide ((r.ff.length : Int) > (0 : Int))) then (qA k p l (wr (n + (1 : Int)))) else (qA k p l n)) = k (n + ((if (e.fa = 4 ∨ e.fa = 5) ∧ ∃ r, zi p.fd e.fJ = some r ∧ r.ff ≠ [] then 1 else 0) + y6 p l)) := fun r hr hk => by
   by_cases hR : r.ff = []
   rw [if_neg fun ⟨_, r', hr', hn⟩ => by
    obtain rfl := Option.some.inj (hr.symm.trans hr')
    exact hn hR] at hn ⊢
   rw [decide_eq_false (by rw [hR]; simp), cond_false, qtV p k l n he' h0 oa, Int.zero_add]
   have hl : 0 < r.ff.length := vI.2 hR
   rw [if_pos ⟨hk, r, hr, hR⟩] at hn ⊢
   rw [decide_eq_true oa, cond_true, qgA oa, qtV p k l _ he' oa oa]
   congr 1
   omega
  by_cases h4 : e.fa = 4
  obtain ⟨r, hr⟩ := he e (jd ..) (.inl h4)
  rw [uT h4, cond_true, hr, ja]
  rw [hr] at one
  exact one r rfl (.inl h4)
  rw [uF h4, cond_false]
  by_cases h5 : e.fa = 5
  obtain ⟨r, hr⟩ := he e (jd ..) (.inr h5)
  rw [uT h5, cond_true, hr, ja]
  rw [hr] at one
  exact one r rfl (.inr h5)
  rw [uF h5, cond_false]
  rw [if_neg fun h => by omega] at hn ⊢
  rw [qtV p k l n he' h0 oa, Int.zero_add]
/-! ### the law -/
theorem qzt (p : qc) (hp : BkP p) : Yl (qd9 p) fun b => b = true → p.fx.length ≤ 12 ∧ ∀ r ∈ p.fd, RSm r := by
 unfold qd9
 refine .cond (fun _ => .pure fun h => by cases h) fun h1 => .cond (fun _ => .pure fun h => by cases h) fun _ => (qxE _ hp.r).mono fun b hb h => ⟨?_, hb h⟩
 have := dF h1
 omega
theorem qop : ∀ (l : List qB) (n : Int) (i : Nat), Yl (qaX (fun n => some n) l n i) fun _ => True
 | [], n, i => by rw [qaX]; exact .pure trivial
 | d :: l, n, i => by
  rw [qaX]
  exact .cond (fun _ => .cond (fun _ => qop l _ _) fun _ => .cond (fun _ => qop l _ _) fun _ => qop l _ _) fun _ => .pure trivial
theorem qBd (p : qc) (hp : BkP p) (most : Int) : Yl (qeU p most) fun b => b = true → p.fx.length ≤ 12 ∧ ∀ r ∈ p.fd, RSm r := by
 unfold qeU
 refine .bind (qzt p hp) fun b hb => .cond (fun h => .bind (qop _ 0 0) fun n _ => ?_) fun _ => .pure fun h => by cases h
 have ok := hb h
 have any : ∀ x : Bool, Yl (some x) fun b => b = true → p.fx.length ≤ 12 ∧ ∀ r ∈ p.fd, RSm r := fun x => .pure fun _ => ok
 refine .cond (fun _ => .cond (fun _ => any _) fun _ => .cond (fun _ => .cond (fun _ => any _) fun _ => .cond (fun _ => any _) fun _ => any _) fun _ => .cond (fun _ => any _) fun _ => any _) fun _ => .cond (fun _ => .cond (fun _ => any _) fun _ => .cond (fun _ => any _) fun _ => any _) fun _ => .cond (fun _ => any _) fun _ => any _
theorem qzR (fuel : Nat) (haw : Yl (qK fuel) fun b => b = true) {k : List At → Option Bool} : ∀ (l done : List Gl), (∀ g ∈ done, g.op = 0) → done.length + l.length ≤ 1000000 → ((∀ g ∈ done ++ l, g.op = 0) → Yl (k ((done ++ l).map yJ)) fun b => b = true) → Yl (qam k fuel l (done.map yJ)) fun b => b = true
 | [], done, hd, _, hk => by
  rw [qam]
  rw [js] at hk
  exact hk hd
 | g :: l, done, hd, hl, hk => by
  rw [jg] at hl
  rw [qam]
  refine .cond (fun _ => .bind haw fun b hb => .pure hb) fun h => ?_
  rw [qf9 oa (n := 0) oe, ja]
  have := qzR fuel haw (k := k) l (done ++ [g]) (fun x hx => by
   rcases jl.1 hx with hx | hx
   exact hd x hx
   rw [jn.1 hx]
   exact bF h) (by rw [je, jp]; omega) (by rw [ji]; exact hk)
  rw [jK, Jg] at this
  exact this
structure BkR42 (p : qc) (goals : List Gl) : Prop where
 bp : BkP p
 a : ∀ r ∈ p.fd, ∀ a ∈ r.fi ++ r.ff, wtL a.ts ≤ 1048576
 g : ∀ r ∈ p.fd, ∀ g ∈ r.fg, wtL g.ts ≤ 1048576
 q : ∀ g ∈ goals, wtL g.ts ≤ 1048576
theorem qyY (fuel : Nat) (hf : 1500000000 < fuel) (hf2 : fuel ≤ 5000000000) (p : qc) (goals : List Gl) (most : Int) (haw : Yl (qK fuel) fun b => b = true) (h : BkR42 p goals) : qc8 fuel p goals most = some true := by
 have ex : Yl ((qK fuel).bind fun r => some r) fun b => b = true := .bind haw fun b hb => .pure hb
 have key : Yl (qc8 fuel p goals most) fun b => b = true := by
  unfold qc8
  refine .bind (qyC fuel oa p h.bp) fun e0 h0 => .bind (qBd p h.bp most) fun b1 h1 => .cond (fun _ => ex) fun l1 => .bind (qoI goals 6 fun g hg => by have := h.q g hg; omega) fun b2 h2 => .cond (fun _ => ex) fun l2 => .cond (fun _ => ex) fun l0 => .bind (qBy fuel oa p.fx goals 0 fun g hg => by have := h.q g hg; omega) fun e3 h3 => .cond (fun _ => ex) fun l3 => ?_
  have pr := h0 (bF l0)
  obtain ⟨hd12, hsm⟩ := h1 (nF l1)
  have hg6 := h2 (nF l2)
  have q := h3 (bF l3)
  have hBr : ∀ r ∈ p.fd, Br r := fun r hr => by
   have := hsm r hr
   exact ⟨by have := this.lk; omega, by have := this.lr; omega, by have := this.lb; omega, fun a ha => h.a r hr a (jr _ ha), fun a ha => h.a r hr a (jz _ ha), fun g hg => h.g r hr g hg⟩
  refine qzR fuel haw goals [] (fun g h => by cases h) oe fun hop => ?_
  rw [jo] at hop ⊢
  refine .bind (qyu fuel oa p hBr oa most) fun r hr => .cond (fun _ => ex) fun l4 => ?_
  have hk := hr (bF l4)
  unfold qfB
  rw [qzH _ hk.v, ja, jL, cond_false, qwY fuel oa hk goals 0 (fun g hg => ⟨hop g hg, q.g g hg, q.c g hg (hop g hg), q.v g hg⟩) (jX _) oa, ja]
  rw [show ((0 : Int) != 0) = false by simp, cond_false, qBo goals oa 0 (jX _), ja]
  have hgo : zB (goals.reverse.map y9) = goals.reverse := qng _
  have bkc : BkC ⟨goals.reverse.map y9, [], [], [], 1, 0, false⟩ := ⟨fun f hf => by
   obtain ⟨g, hg, rfl⟩ := jx.1 hf
   have := h.q g (vO.1 hg)
   show wtL g.ts ≤ _
   omega, fun q hq => (by cases hq), fun q hq => (by cases hq), by simp⟩
  have sum0 : yY r.1 [] = 0 := rfl
  have hrun : Yl (qfg fuel p ⟨goals.reverse.map y9, [], [], [], 1, 0, false⟩ 150) fun x => (∀ e ∈ x.2.1, (e.fa = 4 ∨ e.fa = 5) → ∃ r, zi p.fd e.fJ = some r) ∧ y6 p x.2.1 ≤ yw r.1 goals := by
   unfold qfg
   have nil_ : ∀ c : qe, ∀ e : Int, Yl (some (c, ([] : List qv), e)) fun x => (∀ e ∈ x.2.1, (e.fa = 4 ∨ e.fa = 5) → ∃ r, zi p.fd e.fJ = some r) ∧ y6 p x.2.1 ≤ yw r.1 goals := fun c e => .pure ⟨fun e h => (by cases h), qpN hk.v _⟩
   refine .bind (qsw fuel oa p h.bp _ bkc) fun b _ => .cond (fun _ => nil_ _ _) fun _ => .cond (fun _ => nil_ _ _) fun _ => ?_
   refine (qCg fuel hf h.bp 150 (RunI p r.1 (yw r.1 goals)) (fun c out e pre f t hc _ hs hi hst => qAe hk hc hs hi hst) fuel [] _ oe oe bkc ⟨?_, fun e h => (by cases h), ?_⟩).mono fun x hx => ⟨hx.1.r, ?_⟩
   show ∀ g ∈ zB (goals.reverse.map y9), g.op ≠ 3
   rw [hgo]
   intro g hg
   rw [hop g (vO.1 hg)]
   omega
   show y6 p [] + (yY r.1 [] + yw r.1 (zB (goals.reverse.map y9))) ≤ _
   rw [hgo, qsW, sum0, y6]
   omega
   have := hx.1.s
   have := qxx hk.v x.1.fo
   have := qpN hk.v (zB x.1.fb)
   omega
  refine .bind hrun fun x hx => ?_
  have hnn := qv8 p x.2.1
  have hb := (qzk hk.v goals fun g hg => (qhc (q.g g hg)).2).2
  rw [qtV p _ x.2.1 0 hx.1 (jX _) oa]
  refine .cond (fun _ => ex) fun l5 => absurd hx.2 ?_
  have := dF l5
  dsimp only at this
  omega
 obtain ⟨b, e, hb⟩ := key
 rw [e, hb]
def Le {α : Type} (x y : Option α) : Prop := ∀ a, x = some a → y = some a
theorem Le.rfl' {α : Type} (x : Option α) : Le x x := fun _ h => h
theorem Le.bind {α β : Type} {x : Option α} {f g : α → Option β} (h : ∀ a, Le (f a) (g a)) : Le (x.bind f) (x.bind g) := fun b e => by
 obtain ⟨a, ha, e⟩ := jN.1 e
 rw [ha]
 exact h a b e
theorem Le.bind2 {α β : Type} {x y : Option α} {f g : α → Option β} (hx : Le x y) (h : ∀ a, Le (f a) (g a)) : Le (x.bind f) (y.bind g) := fun b e => by
 obtain ⟨a, ha, e⟩ := jN.1 e
 rw [hx a ha]
 exact h a b e
theorem Le.cond {α : Type} {b : Bool} {x y x' y' : Option α} (h1 : Le x x') (h2 : Le y y') : Le (bif b then x else y) (bif b then x' else y') := by
 cases b with
 | true => exact h1
 | false => exact h2
abbrev VR := List (Int × Bool) × List (Int × Bool)
noncomputable def eL2 (k : Int → Option Bool) (r1 : VR) (l : List (Int × Int)) (v : Int) : Option Bool := match l with
 | [] => zU (fun q (v : Int) => qda k r1 q v) (fun v => qdb k r1 v) [] v
 | [q] => zU (fun q (v : Int) => qda k r1 q v) (fun v => qdb k r1 v) [q] v
 | _ => none
theorem qEe (k : Int → Option Bool) (r1 : VR) (l : List (Int × Int)) (v : Int) : Le (eL2 k r1 l v) (qfJ k r1 l v) := by
 match l with
 | [] => exact fun a h => qtQ fun l' hp => by rw [List.perm_nil.1 hp]; exact h
 | [q] => exact fun a h => qtQ fun l' hp => by rw [List.perm_singleton.1 hp]; exact h
 | _ :: _ :: _ => exact fun a h => by cases h
theorem eL34 {k k' : Option Bool} (hk : Le k k') (r1 : VR) : ∀ l : List Int, Le (qae k r1 l) (qae k' r1 l) ∧ Le (qaD k r1 l) (qaD k' r1 l)
 | [] => by rw [qae, qaD, qae, qaD]; exact ⟨hk, hk⟩
 | x :: l => by
  have := eL34 hk r1 l
  rw [qae, qaD, qae, qaD]
  exact ⟨.cond (.cond (.rfl' _) this.1) this.1, .cond (.cond (.rfl' _) this.2) this.2⟩
theorem eL1 {k k' : Int → List (Int × Int) → Option Bool} (hk : ∀ c m, Le (k c m) (k' c m)) (fuel : Nat) (r1 : VR) (r : qr) (ranks : List qh) : ∀ (l : List Gl) (c : Int) (m : List (Int × Int)), Le (qJ k fuel r1 r ranks l c m) (qJ k' fuel r1 r ranks l c m)
 | [], c, m => by rw [qJ, qJ]; exact hk c m
 | g :: l, c, m => by
  have next := eL1 hk fuel r1 r ranks l
  rw [qJ, qJ]
  exact .cond (.rfl' _) (.cond (.cond (.rfl' _) (.cond (next _ _) (.bind fun vs => (eL34 (.bind fun a => .cond (.rfl' _) (next _ _)) r1 vs).1))) (.cond (next _ _) (.bind fun vs => (eL34 (.bind fun a => .cond (.rfl' _) (next _ _)) r1 vs).2)))
theorem eL0 {k k' : Int → List (Int × Int) → Option Bool} (hk : ∀ c m, Le (k c m) (k' c m)) (fuel : Nat) (ranks : List qh) : ∀ (l : List At) (c : Int) (m : List (Int × Int)), Le (q9 k fuel ranks l c m) (q9 k' fuel ranks l c m)
 | [], c, m => by rw [q9, q9]; exact hk c m
 | a :: l, c, m => by
  rw [q9, q9]
  exact .bind fun r => .cond (.rfl' _) (eL0 hk fuel ranks l _ _)
noncomputable def eDec (fuel : Nat) (ranks : List qh) (r : qr) : Option Bool :=
 (qfT r).bind fun r1 => q9 (fun c m => qJ (fun c m => eL2 (fun l => bif decide (l ≥ 1) then some true else some ((r.ff.length : Int) == 0)) r1 m c) fuel r1 r ranks r.fg c m) fuel ranks r.ff 0 []
theorem qDe (fuel : Nat) (ranks : List qh) (r : qr) : Le (eDec fuel ranks r) (qeN fuel ranks r) := .bind fun r1 => eL0 (fun c m => eL1 (fun c m => qEe _ r1 m c) fuel r1 r ranks _ c m) fuel ranks _ _ _
noncomputable def eC1 (fuel : Nat) (ranks : List qh) : List qr → Option Int
 | [] => some 0
 | r :: l => (eDec fuel ranks r).bind fun b => bif !b then some 19 else eC1 fuel ranks l
theorem qCq (fuel : Nat) (ranks : List qh) : ∀ l, Le (eC1 fuel ranks l) (qbW (some 0) fuel ranks l)
 | [] => by rw [qbW]; exact .rfl' _
 | r :: l => by
  rw [qbW]
  exact .bind2 (qDe fuel ranks r) fun b => .cond (.rfl' _) (qCq fuel ranks l)
theorem eC0 {k k' : Option Int} (hk : Le k k') (ranks : List qh) : ∀ l, Le (qbc k ranks l) (qbc k' ranks l)
 | [] => by rw [qbc, qbc]; exact hk
 | d :: l => by
  rw [qbc, qbc]
  exact .bind fun _ => .cond (.rfl' _) (eC0 hk ranks l)
noncomputable def eFnd (fuel : Nat) (most : Int) (p : qc) : Nat → List Int → Bool → Option (List qh × Int)
 | 0, _, _ => none
 | n + 1, l, more => bif more then (qe9 p.fx l).bind fun rk => ((qhK rk).bind fun v => bif !v then some 2 else qbc (eC1 fuel rk p.fd) rk p.fx).bind fun e => bif e == 0 then some (rk, 0) else (qeR l most).bind fun r => eFnd fuel most p n r.1 r.2 else some ([], 13)
theorem qv7 (fuel : Nat) (most : Int) (p : qc) : ∀ (n : Nat) (l : List Int) (more : Bool), Le (eFnd fuel most p n l more) (qbU (some ([], 13)) fuel most p n l more)
 | 0, l, more => fun a h => by cases h
 | n + 1, l, more => by
  rw [qbU]
  exact .cond (.bind fun rk => .bind2 (.bind fun v => .cond (.rfl' _) (eC0 (qCq fuel rk _) rk _)) fun e => .cond (.rfl' _) (.bind fun r => qv7 fuel most p n r.1 r.2)) (.rfl' _)
def exOne : qr := ⟨⟨#[]⟩, [], [(⟨⟨#[112]⟩, [(T.mk 1 0 ⟨#[]⟩ [])]⟩ : At)], [], [(⟨0, ⟨#[113]⟩, [(T.mk 1 0 ⟨#[]⟩ [])]⟩ : Gl)], 1⟩
def exTwo : qr := ⟨⟨#[]⟩, [], [(⟨⟨#[112]⟩, [(T.mk 2 0 ⟨#[102]⟩ [(T.mk 1 0 ⟨#[]⟩ [])])]⟩ : At)], [], [(⟨0, ⟨#[112]⟩, [(T.mk 1 0 ⟨#[]⟩ [])]⟩ : Gl)], 1⟩
theorem qBX : qep 2000000020 ⟨[(⟨⟨#[112]⟩, 1⟩ : qB), (⟨⟨#[113]⟩, 1⟩ : qB)], [exOne]⟩ 2 = some ([(⟨⟨#[112]⟩, 0, [1]⟩ : qh), (⟨⟨#[113]⟩, 0, [0]⟩ : qh)], 0) :=
 (show _ = qbU (some ([], 13)) 2000000020 2 ⟨[(⟨⟨#[112]⟩, 1⟩ : qB), (⟨⟨#[113]⟩, 1⟩ : qB)], [exOne]⟩ 2000000020 [0, 0, 0, 0] true by kernel_rfl).trans (qv7 _ _ _ _ _ _ _ ob)
theorem qBY : qep 2000000020 ⟨[(⟨⟨#[112]⟩, 1⟩ : qB)], [exTwo]⟩ 1 = some ([(⟨⟨#[112]⟩, 0, [1]⟩ : qh)], 0) :=
 (show _ = qbU (some ([], 13)) 2000000020 1 ⟨[(⟨⟨#[112]⟩, 1⟩ : qB)], [exTwo]⟩ 2000000020 [0, 0] true by kernel_rfl).trans (qv7 _ _ _ _ _ _ _ ob)
theorem qv1 : qK 2000000020 = some true := by
 have v : qdc 0 = some (T.mk 1 0 ⟨#[]⟩ []) := by rw [qdc]
 have g1 : qcN ⟨#[112]⟩ ⟨#[113]⟩ (T.mk 1 0 ⟨#[]⟩ []) = some exOne := by rw [qcN, v]; rfl
 have g2 : qfh ⟨#[102]⟩ [T.mk 1 0 ⟨#[]⟩ []] = some (T.mk 2 0 ⟨#[102]⟩ [(T.mk 1 0 ⟨#[]⟩ [])]) := by rw [qfh, qk5 od od]; rfl
 have g3 : qcN ⟨#[112]⟩ ⟨#[112]⟩ (T.mk 2 0 ⟨#[102]⟩ [(T.mk 1 0 ⟨#[]⟩ [])]) = some exTwo := by rw [qcN, v]; rfl
 rw [qK, v, ja, g1, ja, g2, ja, g3, ja, qBX, ja, qBY, ja]
 refine Eq.trans ?_ (Eq.refl (some true))
 kernel_rfl
end Go.Proofs.YtamoolpdganckaaGreat
namespace Go.Proofs.YtamoolpdganckaaGreat
set_option maxRecDepth 100000
open Go.ChangeShapes Go.WideShapes Go.ChangeAt Go.RowKit
theorem qon : ∀ l : List D, l.length ≤ zG l
 | [] => jk _
 | d :: l => by
  have := qon l
  have : 1 ≤ z4 d := by cases d <;> simp [z4]
  rw [jg, zG]
  omega
theorem qEv {p : qc} (h : z4 (qi p) ≤ 1048576) : BkP p := by
 have hb := qux h
 simp only [qi, z4, zG] at h
 refine ⟨fun r hr => ?_, fun d hd => ?_⟩
 obtain ⟨b1, b2, b3, b4⟩ := hb r hr
 have h1 := qjO (f := ql) hr
 simp only [ql, z4, zG] at h1
 have l1 := qon (r.fi.map zY)
 have l2 := qon (r.ff.map zY)
 have l3 := qon (r.fy.map zE)
 have l4 := qon (r.fg.map zE)
 rw [jb] at l1 l2 l3 l4
 refine ⟨fun a ha => ?_, fun g hg => ?_, by omega, by omega, by omega⟩
 rcases jl.1 ha with ha | ha
 have := b1 a ha; omega
 have := b2 a ha; omega
 rcases jl.1 hg with hg | hg
 have := b3 g hg; omega
 have := b4 g hg; omega
 have h1 := qjO (f := qD) hd
 simp only [qD, z4, zG] at h1
 omega
theorem qEt {l : List Gl} (h : z4 (.lst (l.map zE)) ≤ 1048576) : ∀ g ∈ l, wtL g.ts ≤ 1048576 := fun g hg => by
 simp only [z4] at h
 have h1 := qjO (f := zE) hg
 exact qv0 (g := g) oa
theorem qnQ (p : qc) (goals : List Gl) (most : Int) (hp : z4 (qi p) ≤ 1048576) (hg : z4 (.lst (goals.map zE)) ≤ 1048576) : zf Tryz.prog 4 [qi p, .lst (goals.map zE), .int .i64 most] (.bool true) := by
 have hb := qux hp
 refine qi0 2000000020 p goals most true (qyY 2000000020 oa oa p goals most ⟨true, qv1, rfl⟩ ⟨qEv hp, fun r hr a ha => ?_, fun r hr g hg => (hb r hr).2.2.2 g hg, qEt hg⟩)
 obtain ⟨b1, b2, _⟩ := hb r hr
 rcases jl.1 ha with ha | ha
 exact b1 a ha
 exact b2 a ha
end Go.Proofs.YtamoolpdganckaaGreat
