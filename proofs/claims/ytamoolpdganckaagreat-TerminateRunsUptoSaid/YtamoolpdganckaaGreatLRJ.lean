/-
 Texts of the seat, merged.
-/
import Derived.Test.YtamoolpdganckaaGreatLRI
set_option linter.unusedVariables false
set_option linter.unusedSimpArgs false
set_option linter.unnecessarySimpa false
set_option linter.all false
set_option maxHeartbeats 8000000
namespace Go.Proofs.YtamoolpdganckaaGreat
noncomputable section
set_option maxRecDepth 100000
open Go.RowKit
abbrev Ms := qj
/-! ### least, term -/
theorem qwn (c : List Int) (cl : Int) (k : Int → Option Int) : ∀ (l : List Nd) (v : Int) (i : Nat), i + l.length ≤ c.length → ∃ r, qp k c cl l v i = k r
 | [], v, i, _ => ⟨v, by rw [qp]⟩
 | q :: l, v, i, h => by
  rw [jg] at h
  obtain ⟨x, hx, _⟩ := yo (l := c) (i := (i : Int)) oa oa
  have next := fun v => qwn c cl k l v (i + 1) oa
  rw [qp, hx, ja]
  cases (x == cl) with
  | false => exact next v
  | true =>
   cases (q.fa == (1 : Int)) with
   | false => exact next v
   | true =>
    cases (decide (v < 0)) with
    | true => exact next _
    | false =>
     cases (decide (q.fj < v)) with
     | true => exact next _
     | false => exact next _
theorem qqa {g : List Nd} {c : List Int} (h : StG g c) (cl : Int) : ∃ r, qbz cl g c = some r := by
 obtain ⟨r, e⟩ := qwn c cl (fun v => some v) g (-1) 0 (by have := h.len; omega)
 exact ⟨r, e⟩
theorem qz0 {rec : Int → List Nd → List Int → Option T} {g : List Nd} {c : List Int} (h : StG g c) {q : Nd} (hq : q ∈ g) (hM : q.fe.length ≤ 1000000000) (k : Int → Int → ByteArray → List T → Option T) (a b : Int) (s : ByteArray) (hr : ∀ x ∈ q.fe, ∀ v, zi c x = some v → ∃ t, rec v g c = some t) :
 ∀ (n i : Nat) (l : List T), q.fe.length < n + i → i ≤ q.fe.length → l.length = i → ∃ l', qt k rec g c q n (i : Int) a b s l = k a b s l'
 | 0, i, l, h1, h2, _ => by omega
 | n + 1, i, l, h1, h2, h3 => by
  have hl := h.len
  rw [qt]
  by_cases hi : i < q.fe.length
  obtain ⟨x, hx, hxm⟩ := yo (l := q.fe) (i := (i : Int)) oa oa
  have hxb := h.kid q hq x hxm
  obtain ⟨v, hv, _⟩ := yo (l := c) hxb.1 oa
  obtain ⟨t, ht⟩ := hr x hxm v hv
  have hi' : wr ((i : Int) + 1) = ((i + 1 : Nat) : Int) := by
   rw [qgA oa]
   omega
  obtain ⟨l', e⟩ := qz0 h hq hM k a b s hr n (i + 1) (l ++ [t]) oa oa (by simp [h3])
  refine ⟨l', ?_⟩
  rw [decide_eq_true oa, cond_true, hx, ja, hv, ja, ht, ja, qf9 oa (n := 0) oa, ja, hi', e]
  rw [decide_eq_false oa, cond_false]
  exact ⟨l, rfl⟩
def yD (M : Nat) (g : List Nd) (c : List Int) (K : Nat) (v : Int) : Prop := ∀ fuel, K + M + 2 ≤ fuel → ∃ t, qz fuel v g c = some t
theorem yD.more {M : Nat} {g : List Nd} {c : List Int} {K L : Nat} {v : Int} (h : yD M g c K v) (hl : K ≤ L) : yD M g c L v := fun fuel hf => h fuel oa
theorem qum {M : Nat} (hM : M ≤ 1000000000) {g : List Nd} {c : List Int} (h : StG g c) (hk : Kd M g) {K : Nat} {v r : Int} (hr : qC v g c = some r) (hs : r < 0 ∨ ∃ q, zi g r = some q ∧ ∀ x ∈ q.fe, ∀ w, zi c x = some w → yD M g c K w) : yD M g c (K + 1) v := by
 intro fuel hf
 obtain ⟨fuel, rfl⟩ : ∃ n, fuel = n + 1 := ⟨fuel - 1, by omega⟩
 rw [qz]
 dsimp only
 rw [hr, ja]
 by_cases h0 : r < 0
 rw [decide_eq_true h0, cond_true]
 obtain ⟨x, e⟩ := qqa h v
 exact ⟨_, by rw [e, ja]⟩
 rcases hs with hs | ⟨q, hq, hx⟩
 exact absurd hs h0
 rw [decide_eq_false h0, cond_false, hq, ja]
 have hqm := qfM hq
 have hkq := hk q hqm
 obtain ⟨l', e⟩ := qz0 h hqm oa (rec := qz fuel) (fun t_14 t_15 t_16 t_17 => some ((T.mk t_14 t_15 t_16 t_17))) q.fa q.fj q.fF (fun x hxm w hw => hx x hxm w hw fuel oa) fuel 0 [] oa oa rfl
 exact ⟨_, e⟩
/-! ### measured -/
def AllM (a : List Ms) : Prop := ∀ y ∈ a, 0 ≤ y.fh ∧ y.fh ≤ 201 ∧ 0 ≤ y.fm ∧ y.fm ≤ 21
def SetM (a : List Ms) (v : Int) : Prop := ∃ y, zi a v = some y ∧ 0 < y.fh
abbrev MsR := Option (List Ms × Bool)
def ks (a : List Ms) (c : List Int) : List Int → Int
 | [] => 0
 | x :: l => (((zi c x).bind fun w => zi a w).map fun y => y.fh).getD 0 + ks a c l
theorem qCP {a : List Ms} (ha : AllM a) (c : List Int) : ∀ l : List Int, 0 ≤ ks a c l
 | [] => jX _
 | x :: l => by
  have := qCP ha c l
  rw [ks]
  cases h : (zi c x).bind fun w => zi a w with
  | none =>
   show 0 ≤ 0 + _
   omega
  | some y =>
   obtain ⟨w, _, hy⟩ := jN.1 h
   have := (ha y (qfM hy)).1
   show 0 ≤ y.fh + _
   omega
theorem qvJ {a : List Ms} {c : List Int} {x w : Int} {y : Ms} (h1 : zi c x = some w) (h2 : zi a w = some y) (l : List Int) : ks a c (x :: l) = y.fh + ks a c l := by
 rw [ks, h1, ja, h2]
 rfl
theorem qCi {a : List Ms} (ha : AllM a) {c : List Int} {x w : Int} {y : Ms} (h1 : zi c x = some w) (h2 : zi a w = some y) : ∀ {l : List Int}, x ∈ l → y.fh ≤ ks a c l
 | z :: l, h => by
  have hl := qCP ha c l
  rcases jh.1 h with rfl | h
  rw [qvJ h1 h2]
  omega
  have := qCi ha h1 h2 h
  rw [ks]
  cases hz : (zi c z).bind fun w => zi a w with
  | none =>
   show _ ≤ 0 + _
   omega
  | some y' =>
   obtain ⟨w', _, hy⟩ := jN.1 hz
   have := (ha y' (qfM hy)).1
   show _ ≤ y'.fh + _
   omega
def zaY (g : List Nd) (c : List Int) (v s : Int) : Prop := ∀ fuel t, qz fuel v g c = some t → (wt t : Int) ≤ s
theorem qwG {rec : Int → List Nd → List Int → Option T} {g : List Nd} {c : List Int} {a : List Ms} {q : Nd} (hl : q.fe.length ≤ 1000000000) (hr : ∀ x ∈ q.fe, ∀ w, zi c x = some w → ∃ y, zi a w = some y ∧ ∀ t, rec w g c = some t → (wt t : Int) ≤ y.fh) (k1 k2 : Int) (nm : ByteArray) :
 ∀ (n i : Nat) (l : List T) (t : T), i ≤ q.fe.length → qt (fun t_14 t_15 t_16 t_17 => some (T.mk t_14 t_15 t_16 t_17)) rec g c q n (i : Int) k1 k2 nm l = some t → (wt t : Int) ≤ 1 + wtL l + ks a c (q.fe.drop i)
 | 0, i, l, t, _, h => by
  rw [qt] at h
  cases h
 | n + 1, i, l, t, hi, h => by
  rw [qt] at h
  by_cases h1 : (i : Int) < (q.fe.length : Int)
  rw [decide_eq_true h1, cond_true] at h
  obtain ⟨x, hx, h⟩ := jN.1 h
  obtain ⟨v, hv, h⟩ := jN.1 h
  obtain ⟨y, hy, h⟩ := jN.1 h
  obtain ⟨l2, hl2, h⟩ := jN.1 h
  obtain ⟨z, hz, hw⟩ := hr x (qkT hx).2.2 v hv
  have hwy := hw y hy
  have hl2' : l2 = l ++ [y] := by
   unfold zF at hl2
   split at hl2
   exact (Option.some.inj hl2).symm
   cases hl2
  subst hl2'
  have hi' : wr ((i : Int) + 1) = ((i + 1 : Nat) : Int) := by
   rw [qgA oa]
   omega
  rw [hi'] at h
  have ih := qwG hl hr k1 k2 nm n (i + 1) (l ++ [y]) t oa h
  have hd : q.fe.drop i = x :: q.fe.drop (i + 1) := by
   rw [qdQ] at hx
   rw [jY oa]
   rw [jq oa] at hx
   rw [Option.some.inj hx]
  rw [hd, qvJ hv hz]
  rw [qne] at ih
  simp only [wtL] at ih
  omega
  rw [decide_eq_false h1, cond_false] at h
  rw [← Option.some.inj h, j9 oa, ks, wt]
  omega
theorem qsl {g : List Nd} {c : List Int} {a : List Ms} {v r s : Int} (hr : qC v g c = some r) (h1 : 1 ≤ s) (hs : r < 0 ∨ ∃ q, zi g r = some q ∧ q.fe.length ≤ 1000000000 ∧ (∀ x ∈ q.fe, ∀ w, zi c x = some w → ∃ y, zi a w = some y ∧ zaY g c w y.fh) ∧ 1 + ks a c q.fe ≤ s) : zaY g c v s := by
 intro fuel t ht
 cases fuel with
 | zero =>
  rw [qz] at ht
  cases ht
 | succ fuel =>
  rw [qz] at ht
  dsimp only at ht
  rw [hr, ja] at ht
  by_cases h0 : r < 0
  rw [decide_eq_true h0, cond_true] at ht
  obtain ⟨x, _, ht⟩ := jN.1 ht
  rw [← Option.some.inj ht, wt, wtL]
  omega
  rcases hs with hs | ⟨q, hq, hl, hk, hsum⟩
  exact absurd hs h0
  rw [decide_eq_false h0, cond_false, hq, ja] at ht
  have := qwG (a := a) hl (fun x hx w hw => by
   obtain ⟨y, hy, hy2⟩ := hk x hx w hw
   exact ⟨y, hy, fun t h => hy2 fuel t h⟩) _ _ _ fuel 0 [] t (jc _) ht
  rw [vo] at this
  simp only [wtL] at this
  omega
def zbA (g : List Nd) (c : List Int) (v s : Int) : Prop := ∀ fuel t, qz fuel v g c = some t → (yg t : Int) ≤ s
theorem qwp {rec : Int → List Nd → List Int → Option T} {g : List Nd} {c : List Int} {q : Nd} {d : Int} (h1 : 1 ≤ d) (hr : ∀ x ∈ q.fe, ∀ w, zi c x = some w → ∀ t, rec w g c = some t → (yg t : Int) + 1 ≤ d) (k1 k2 : Int) (nm : ByteArray) :
 ∀ (n : Nat) (i : Int) (l : List T) (t : T), qt (fun t_14 t_15 t_16 t_17 => some (T.mk t_14 t_15 t_16 t_17)) rec g c q n i k1 k2 nm l = some t → (zK l : Int) + 1 ≤ d → (yg t : Int) ≤ d
 | 0, i, l, t, h, _ => by
  rw [qt] at h
  cases h
 | n + 1, i, l, t, h, hd => by
  rw [qt] at h
  by_cases h2 : i < (q.fe.length : Int)
  rw [decide_eq_true h2, cond_true] at h
  obtain ⟨x, hx, h⟩ := jN.1 h
  obtain ⟨v, hv, h⟩ := jN.1 h
  obtain ⟨y, hy, h⟩ := jN.1 h
  obtain ⟨l2, hl2, h⟩ := jN.1 h
  have hwy := hr x (qkT hx).2.2 v hv y hy
  have hl2' : l2 = l ++ [y] := by
   unfold zF at hl2
   split at hl2
   exact (Option.some.inj hl2).symm
   cases hl2
  subst hl2'
  refine qwp h1 hr k1 k2 nm n _ _ t h ?_
  rw [qny]
  simp only [zK]
  omega
  rw [decide_eq_false h2, cond_false] at h
  rw [← Option.some.inj h, yg]
  split <;> omega
theorem qsr {g : List Nd} {c : List Int} {v r s : Int} (hr : qC v g c = some r) (h1 : 1 ≤ s) (hs : r < 0 ∨ ∃ q, zi g r = some q ∧ ∀ x ∈ q.fe, ∀ w, zi c x = some w → ∃ y, zbA g c w y ∧ y + 1 ≤ s) : zbA g c v s := by
 intro fuel t ht
 cases fuel with
 | zero =>
  rw [qz] at ht
  cases ht
 | succ fuel =>
  rw [qz] at ht
  dsimp only at ht
  rw [hr, ja] at ht
  by_cases h0 : r < 0
  rw [decide_eq_true h0, cond_true] at ht
  obtain ⟨x, _, ht⟩ := jN.1 ht
  rw [← Option.some.inj ht, yg, if_neg oa]
  omega
  rcases hs with hs | ⟨q, hq, hk⟩
  exact absurd hs h0
  rw [decide_eq_false h0, cond_false, hq, ja] at ht
  exact qwp h1 (fun x hx w hw t ht => by
   obtain ⟨y, h3, h4⟩ := hk x hx w hw
   have := h3 fuel t ht
   omega) _ _ _ fuel 0 [] t ht (by simp only [zK]; omega)
theorem qBF (k : Bool → Ms → MsR) (a : List Ms) (g : List Nd) (c : List Int) {r : Int} (hr : r < 0) (n : Nat) (hn : 0 < n) (d : Bool) (j : Int) (x : Ms) : qH k a g c r n d j x = k d x := by
 obtain ⟨n, rfl⟩ : ∃ m, n = m + 1 := ⟨n - 1, by omega⟩
 rw [qH, decide_eq_false oa, cond_false]
theorem qyK {g : List Nd} {c : List Int} (h : StG g c) {a : List Ms} (ha : AllM a) (hal : a.length = g.length) (k : Bool → Ms → MsR) {r : Int} {q : Nd} (hq : zi g r = some q) (hM : q.fe.length ≤ 1000000000) :
 ∀ (n j : Nat) (d : Bool) (x : Ms), q.fe.length < n + j → j ≤ q.fe.length → 1 ≤ x.fh → x.fh ≤ 201 → 1 ≤ x.fm → x.fm ≤ 21 → ∃ d' x', qH k a g c r n d (j : Int) x = k d' x' ∧ (1 ≤ x'.fh ∧ x'.fh ≤ 201 ∧ 1 ≤ x'.fm ∧ x'.fm ≤ 21 ∧ x.fm ≤ x'.fm) ∧ (d' = true → d = true ∧ ∀ (i : Nat) y, j ≤ i → q.fe[i]? = some y → ∀ w, zi c y = some w → SetM a w) ∧ (x'.fh ≤ 200 → x.fh + ks a c (q.fe.drop j) ≤ x'.fh) ∧ (x'.fm ≤ 20 → ∀ (i : Nat) y, j ≤ i → q.fe[i]? = some y → ∀ w z, zi c y = some w → zi a w = some z → z.fm + 1 ≤ x'.fm)
 | 0, j, d, x, h1, h2, _, _, _, _ => by omega
 | n + 1, j, d, x, h1, h2, h3, h4, h5', h6' => by
  have hl := h.len
  have hr0 := (qkT hq).1
  rw [qH, decide_eq_true oa, cond_true, hq, ja]
  by_cases hj : j < q.fe.length
  · obtain ⟨y, hy, hym⟩ := yo (l := q.fe) (i := (j : Int)) oa oa
    have hyb := h.kid q (qfM hq) y hym
    obtain ⟨w, hw, hwm⟩ := yo (l := c) hyb.1 oa
    have hwb := h.cls w hwm
    obtain ⟨z, hz, hzm⟩ := yo (l := a) hwb.1 oa
    have hzb := ha z hzm
    have hj' : wr ((j : Int) + 1) = ((j + 1 : Nat) : Int) := by
     rw [qgA oa]
     omega
    have hsz : wr (x.fh + z.fh) = x.fh + z.fh := qgA oa
    rw [decide_eq_true oa, cond_true, hy, ja, hw, ja, hz, ja, hj', hsz]
    have hx1 : 1 ≤ zX (x.fh + z.fh) 201 := by rw [qkL]; omega
    have hx2 : zX (x.fh + z.fh) 201 ≤ 201 := by rw [qkL]; omega
    have hdz : wr (z.fm + 1) = z.fm + 1 := qgA oa
    have hd1 : 1 ≤ zX (yd x.fm (wr (z.fm + (1 : Int)))) 21 := by rw [qkL, qpR, hdz]; omega
    have hd2 : zX (yd x.fm (wr (z.fm + (1 : Int)))) 21 ≤ 21 := by rw [qkL]; omega
    have hd3 : x.fm ≤ zX (yd x.fm (wr (z.fm + (1 : Int)))) 21 := by rw [qkL, qpR, hdz]; omega
    have hd4 : zX (yd x.fm (wr (z.fm + (1 : Int)))) 21 ≤ 20 → z.fm + 1 ≤ zX (yd x.fm (wr (z.fm + (1 : Int)))) 21 := by rw [qkL, qpR, hdz]; omega
    have next := fun d => qyK h ha hal k hq hM n (j + 1) d ⟨zX (x.fh + z.fh) 201, (zX (yd x.fm (wr (z.fm + (1 : Int)))) (21 : Int))⟩ oa oa hx1 hx2 hd1 hd2
    have hdr : q.fe.drop j = y :: q.fe.drop (j + 1) := by
     have hy := hy
     rw [qdQ] at hy
     rw [jY oa]
     rw [jq oa] at hy
     rw [Option.some.inj hy]
    have hnn := qCP ha c (q.fe.drop (j + 1))
    have sum : ∀ x' : Ms, (x'.fh ≤ 200 → zX (x.fh + z.fh) 201 + ks a c (q.fe.drop (j + 1)) ≤ x'.fh) → x'.fh ≤ 200 → x.fh + ks a c (q.fe.drop j) ≤ x'.fh := fun x' h h2 => by
     have := h h2
     rw [hdr, qvJ hw hz]
     rw [qkL] at this
     omega
    have deep : ∀ x' : Ms, zX (yd x.fm (wr (z.fm + (1 : Int)))) 21 ≤ x'.fm → (x'.fm ≤ 20 → ∀ (i : Nat) y, j + 1 ≤ i → q.fe[i]? = some y → ∀ w z, zi c y = some w → zi a w = some z → z.fm + 1 ≤ x'.fm) → x'.fm ≤ 20 → ∀ (i : Nat) y, j ≤ i → q.fe[i]? = some y → ∀ w z, zi c y = some w → zi a w = some z → z.fm + 1 ≤ x'.fm := fun x' hle h h2 i y' hi hy' w' z' hw' hz' => by
     by_cases hij : i = j
     · subst hij
       rw [qdQ] at hy
       obtain rfl := Option.some.inj (hy.symm.trans hy')
       obtain rfl := Option.some.inj (hw.symm.trans hw')
       obtain rfl := Option.some.inj (hz.symm.trans hz')
       have := hd4 oa
       omega
     · exact h h2 i y' oa hy' w' z' hw' hz'
    cases d with
    | true =>
     rw [cond_true]
     obtain ⟨d', x', e, ⟨a1, a2, a3, a4, a5⟩, hd, hsm, hdp⟩ := next (decide (z.fh > 0))
     dsimp only at a5
     refine ⟨d', x', e, ⟨a1, a2, a3, a4, by omega⟩, fun hd' => ⟨rfl, fun i y' hi hy' w' hw' => ?_⟩, sum x' hsm, deep x' a5 hdp⟩
     obtain ⟨h5, h6⟩ := hd hd'
     by_cases hij : i = j
     · subst hij
       rw [qdQ] at hy
       obtain rfl := Option.some.inj (hy.symm.trans hy')
       obtain rfl := Option.some.inj (hw.symm.trans hw')
       exact ⟨z, hz, by simpa using h5⟩
     · exact h6 i y' oa hy' w' hw'
    | false =>
     rw [cond_false]
     obtain ⟨d', x', e, ⟨a1, a2, a3, a4, a5⟩, hd, hsm, hdp⟩ := next false
     dsimp only at a5
     exact ⟨d', x', e, ⟨a1, a2, a3, a4, by omega⟩, (fun hd' => by cases (hd hd').1), sum x' hsm, deep x' a5 hdp⟩
  rw [decide_eq_false oa, cond_false]
  refine ⟨d, x, rfl, ⟨h3, h4, h5', h6', jX _⟩, fun hd => ⟨hd, fun i y hi hy => ?_⟩, fun _ => by rw [j9 oa, ks]; omega, fun _ i y hi hy => ?_⟩
  have := (jt.1 hy).1
  omega
  have := (jt.1 hy).1
  omega
def zae (c : List Int) (j : Nat) : Bool := (c[j]? == some (j : Int))
def unS (a : List Ms) (j : Nat) : Bool := match a[j]? with
 | some y => decide (¬ 0 < y.fh)
 | none => true
def un (c : List Int) (a : List Ms) (n : Nat) : Nat := (List.range n).countP fun j => zae c j && unS a j
theorem qqn {p p' : Nat → Bool} {v : Nat} : ∀ {l : List Nat}, l.Nodup → v ∈ l → p v = true → p' v = false → (∀ x, x ≠ v → p' x = p x) → l.countP p = l.countP p' + 1
 | [], _, h, _, _, _ => by cases h
 | x :: l, hn, h, h1, h2, h3 => by
  obtain ⟨hx, hn⟩ := jP.1 hn
  by_cases e : x = v
  subst e
  have : l.countP p = l.countP p' := List.countP_congr fun y hy => by rw [h3 y fun e => hx (e ▸ hy)]
  rw [vN, vN, h1, h2, this]
  simp
  have := qqn hn ((jh.1 h).resolve_left fun k => e k.symm) h1 h2 h3
  rw [vN, vN, h3 x e, this]
  omega
theorem qEo {c : List Int} {a : List Ms} {n : Nat} {v : Int} {y x : Ms} (hv : 0 ≤ v ∧ v < n) (hal : a.length = n) (hc : zi c v = some v) (ha : zi a v = some y) (hy : ¬ 0 < y.fh) (hx : 0 < x.fh) : un c a n = un c (a.set v.toNat x) n + 1 := by
 have hc := (qbV hc).2
 have ha := (qbV ha).2
 refine qqn (v := v.toNat) List.nodup_range (List.mem_range.2 oa) ?_ ?_ fun j hj => ?_
 unfold zae unS
 rw [hc, ha]
 simp
 omega
 unfold unS
 rw [List.getElem?_set_self oa]
 simp [hx]
 unfold unS
 rw [Jf oa]
structure MI (M : Nat) (g : List Nd) (c : List Int) (left : Int) (a : List Ms) : Prop where
 len : a.length = g.length
 all : AllM a
 cnt : left = un c a g.length
 term : ∀ v, SetM a v → yD M g c (g.length - left.toNat) v
 wgt : ∀ v y, zi a v = some y → 0 < y.fh → y.fh ≤ 200 → zaY g c v y.fh
 dep : ∀ v y, zi a v = some y → 0 < y.fh → y.fm ≤ 20 → zbA g c v y.fm
theorem qDY (c : List Int) (a : List Ms) (n : Nat) : un c a n ≤ n := by
 have := List.countP_le_length (p := fun j => zae c j && unS a j) (l := List.range n)
 unfold un
 simpa using this
theorem qt8 {M : Nat} (hM : M ≤ 1000000000) {g : List Nd} (hg : g.length ≤ 1000000000) {c : List Int} (h : StG g c) (hk : Kd M g) (fuel : Nat) (hf : M + 1 < fuel) (k : Int → List Ms → MsR) :
 ∀ (l : List Nd) (left : Int) (i : Nat) (a : List Ms), i + l.length = g.length → MI M g c left a → ∃ left' a', qw k g c fuel l left i a = k left' a' ∧ MI M g c left' a' ∧ left' ≤ left
 | [], left, i, a, _, hI => ⟨left, a, by rw [qw], hI, jX _⟩
 | q :: l, left, i, a, hi, hI => by
  have hl := h.len
  rw [jg] at hi
  obtain ⟨v, hv, hvm⟩ := yo (l := c) (i := (i : Int)) oa oa
  have hvb := h.cls v hvm
  have hvi := h.idem v hvm
  obtain ⟨y, hy, hym⟩ := yo (l := a) hvb.1 (by rw [hI.len]; exact hvb.2)
  rw [qw, hv, ja, hy, ja]
  by_cases hs : y.fh > 0
  rw [decide_eq_true hs, cond_true]
  exact qt8 hM hg h hk fuel hf k l left (i + 1) a oa hI
  rw [decide_eq_false hs, cond_false]
  obtain ⟨r, hr, hrq⟩ := qjs h v
  rw [hr, ja]
  have hun := qDY c a g.length
  have hle := hI.cnt
  have both : ∀ d (x : Ms), (1 ≤ x.fh ∧ x.fh ≤ 201 ∧ 1 ≤ x.fm ∧ x.fm ≤ 21) → (d = true → yD M g c (g.length - left.toNat + 1) v) → (d = true → x.fh ≤ 200 → zaY g c v x.fh) → (d = true → x.fm ≤ 20 → zbA g c v x.fm) → ∃ left' a', (bif d then qw k g c fuel l (wr (left - (1 : Int))) (i + 1) (a.set v.toNat x) else qw k g c fuel l left (i + 1) a) = k left' a' ∧ MI M g c left' a' ∧ left' ≤ left := by
   intro d x hx hd hwg hdg
   cases d with
   | false =>
    rw [cond_false]
    exact qt8 hM hg h hk fuel hf k l left (i + 1) a oa hI
   | true =>
    rw [cond_true]
    have hu := qEo (x := x) hvb hI.len hvi hy hs oa
    have hw : wr (left - 1) = left - 1 := qgA oa
    rw [hw]
    obtain ⟨left', a', e, hI', hl'⟩ := qt8 hM hg h hk fuel hf k l (left - 1) (i + 1) (a.set v.toNat x) oa ⟨by rw [List.length_set]; exact hI.len, fun z hz => by
     rcases Jc hz with hz | rfl
     exact hI.all z hz
     omega, by omega, fun w hw => by
     by_cases e : w = v
     subst e
     exact (hd rfl).more oa
     refine (hI.term w ?_).more oa
     obtain ⟨z, hz, hz0⟩ := hw
     have hw0 := (qbV hz).1
     refine ⟨z, ?_, hz0⟩
     unfold zi at hz ⊢
     rw [if_pos hw0] at hz ⊢
     rwa [Jf oa] at hz, fun w z hz hz0 hz2 => by
     by_cases e : w = v
     subst e
     have : z = x := by
      unfold zi at hz
      rw [if_pos hvb.1, List.getElem?_set_self (by have := hI.len; omega)] at hz
      exact (Option.some.inj hz).symm
     rw [this] at hz2 ⊢
     exact hwg rfl hz2
     refine hI.wgt w z ?_ hz0 hz2
     have hw0 := (qbV hz).1
     unfold zi at hz ⊢
     rw [if_pos hw0] at hz ⊢
     rwa [Jf oa] at hz, fun w z hz hz0 hz2 => by
     by_cases e : w = v
     subst e
     have : z = x := by
      unfold zi at hz
      rw [if_pos hvb.1, List.getElem?_set_self (by have := hI.len; omega)] at hz
      exact (Option.some.inj hz).symm
     rw [this] at hz2 ⊢
     exact hdg rfl hz2
     refine hI.dep w z ?_ hz0 hz2
     have hw0 := (qbV hz).1
     unfold zi at hz ⊢
     rw [if_pos hw0] at hz ⊢
     rwa [Jf oa] at hz⟩
    exact ⟨left', a', e, hI', by omega⟩
  rcases hrq with rfl | ⟨p, hp, hpc, hpk⟩
  rw [qBF _ a g c oa fuel oa]
  exact both true ⟨1, 1⟩ og (fun _ => qum hM h hk hr (.inl oa)) (fun _ _ => qsl (a := a) hr og (.inl oa)) fun _ _ => qsr hr og (.inl oa)
  have hpm := qfM hp
  have hkp := hk p hpm
  obtain ⟨d, x, e, hx, hd, hsm, hdp⟩ := qyK h hI.all hI.len (fun done_25 x_26 => bif done_25 then qw k g c fuel l (wr (left - (1 : Int))) (i + 1) (a.set v.toNat x_26) else qw k g c fuel l left (i + 1) a) hp oa fuel 0 true ⟨1, 1⟩ oa oa og og og og
  refine Exists.imp (fun left' h => h.imp fun a' h => ⟨e.trans h.1, h.2⟩) (both d x ⟨hx.1, hx.2.1, hx.2.2.1, hx.2.2.2.1⟩ (fun hd' => qum hM h hk hr (.inr ⟨p, hp, fun z hz w hw => ?_⟩)) (fun hd' hx2 => ?_) fun hd' hx2 => ?_)
  obtain ⟨n, hn⟩ := List.mem_iff_getElem?.1 hz
  exact hI.term w ((hd hd').2 n z (jc _) hn w hw)
  have hsm := hsm hx2
  rw [vo] at hsm
  refine qsl (a := a) hr hx.1 (.inr ⟨p, hp, by omega, fun z hz w hw => ?_, hsm⟩)
  obtain ⟨n, hn⟩ := List.mem_iff_getElem?.1 hz
  obtain ⟨y', hy', hy0⟩ := (hd hd').2 n z (jc _) hn w hw
  have := qCi hI.all hw hy' hz
  have h1 : (⟨1, 1⟩ : Ms).fh = 1 := rfl
  exact ⟨y', hy', hI.wgt w y' hy' hy0 oa⟩
  refine qsr hr hx.2.2.1 (.inr ⟨p, hp, fun z hz w hw => ?_⟩)
  obtain ⟨n, hn⟩ := List.mem_iff_getElem?.1 hz
  obtain ⟨y', hy', hy0⟩ := (hd hd').2 n z (jc _) hn w hw
  have h1 := hdp hx2 n z (jc _) hn w y' hw hy'
  exact ⟨_, hI.dep w y' hy' hy0 oa, h1⟩
theorem qAa {M : Nat} (hM : M ≤ 1000000000) {g : List Nd} (hg : g.length ≤ 1000000000) {c : List Int} (h : StG g c) (hk : Kd M g) (fuel : Nat) (hf : M + 1 < fuel) :
 ∀ (n : Nat) (left : Int) (a : List Ms), left < n → MI M g c left a → ∃ m ok, qX (fun a_8 => some (a_8, true)) g c fuel n left a = some (m, ok) ∧ (ok = true → ∃ left', left' ≤ 0 ∧ MI M g c left' m)
 | 0, left, a, h1, hI => by
  have := hI.cnt
  omega
 | n + 1, left, a, h1, hI => by
  rw [qX]
  by_cases h0 : left > 0
  rw [decide_eq_true h0, cond_true]
  obtain ⟨left', a', e, hI', hle⟩ := qt8 hM hg h hk fuel hf (fun left_13 a_14 => bif (left_13 == left) then some ([], false) else qX (fun a_8 => some (a_8, true)) g c fuel n left_13 a_14) g left 0 a oa hI
  rw [e]
  by_cases he : left' = left
  rw [uT he, cond_true]
  exact ⟨_, _, rfl, fun h => by cases h⟩
  rw [uF he, cond_false]
  exact qAa hM hg h hk fuel hf n left' a' oa hI'
  rw [decide_eq_false h0, cond_false]
  exact ⟨a, true, rfl, fun _ => ⟨left, by omega, hI⟩⟩
theorem qvD (c : List Int) (k : Int → MsR) : ∀ (l : List Nd) (left : Int) (i : Nat), i + l.length = c.length → 0 ≤ left → left + l.length ≤ 1000000000 → qQ k c l left i = k (left + (List.range' i l.length).countP (zae c))
 | [], left, i, _, _, _ => by
  rw [qQ]
  simp
 | q :: l, left, i, h, h0, h1 => by
  rw [jg] at h h1
  obtain ⟨v, hv, _⟩ := yo (l := c) (i := (i : Int)) oa oa
  rw [qQ, hv, ja, jg, List.range'_succ, vN]
  rw [qdQ] at hv
  by_cases e : v = (i : Int)
  have hi : zae c i = true := by
   unfold zae
   rw [hv, e]
   simp
  rw [uT e, cond_true, qgA oa, qvD c k l (left + 1) (i + 1) oa oa oa, hi]
  congr 1
  simp
  omega
  have hi : zae c i = false := by
   unfold zae
   rw [hv]
   simpa using e
  rw [uF e, cond_false, qvD c k l left (i + 1) oa oa oa, hi]
  simp
theorem qAc {M : Nat} (hM : M ≤ 1000000000) {g : List Nd} (hg : g.length ≤ 1000000000) {c : List Int} (h : StG g c) (hk : Kd M g) (fuel : Nat) (hf : g.length + M + 1 < fuel) : ∃ m ok, qaY fuel g c = some (m, ok) ∧ (ok = true → ∀ v ∈ c, ((∃ y, zi m v = some y) ∧ yD M g c g.length v) ∧ ∀ y, zi m v = some y → (y.fh ≤ 200 → zaY g c v y.fh) ∧ (y.fm ≤ 20 → zbA g c v y.fm)) := by
 have hl := h.len
 unfold qaY
 have hm : zai 16 (g.length : Int) = some g.length := by
  unfold zai
  rw [vC, if_pos oa]
 rw [hm, ja, qvD c _ g 0 0 oa oa oa]
 have hrep : ∀ y ∈ List.replicate g.length (⟨0, 0⟩ : Ms), y = ⟨0, 0⟩ := fun y hy => Jl hy
 have hun : un c (List.replicate g.length ⟨0, 0⟩) g.length = (List.range' 0 g.length).countP (zae c) := by
  unfold un
  rw [← Je]
  refine List.countP_congr fun j hj => ?_
  have hu : unS (List.replicate g.length ⟨0, 0⟩) j = true := by
   unfold unS
   rw [List.getElem?_replicate]
   split
   rename_i y hy
   split at hy
   obtain rfl := Option.some.inj hy
   simp
   cases hy
   rfl
  rw [hu, Bool.and_true]
 have hule := qDY c (List.replicate g.length ⟨0, 0⟩) g.length
 obtain ⟨m, ok, e, hok⟩ := qAa hM oa h hk fuel oa fuel (0 + ((List.range' 0 g.length).countP (zae c) : Int)) (List.replicate g.length ⟨0, 0⟩) oa ⟨by simp, fun y hy => by
  rw [hrep y hy]
  simp, by omega, fun v hv => by
  obtain ⟨y, hy, hy0⟩ := hv
  rw [hrep y (qfM hy)] at hy0
  exact absurd hy0 og, fun v y hy hy0 => by
  rw [hrep y (qfM hy)] at hy0
  exact absurd hy0 og, fun v y hy hy0 => by
  rw [hrep y (qfM hy)] at hy0
  exact absurd hy0 og⟩
 refine ⟨m, ok, e, fun h1 v hv => ?_⟩
 obtain ⟨left, hle, hI⟩ := hok h1
 have hvb := h.cls v hv
 obtain ⟨y, hy, _⟩ := yo (l := m) hvb.1 (by rw [hI.len]; exact hvb.2)
 have pos : 0 < y.fh := ?_
 refine ⟨⟨⟨y, hy⟩, (hI.term v ⟨y, hy, pos⟩).more oa⟩, fun y' hy' => ?_⟩
 obtain rfl := Option.some.inj (hy.symm.trans hy')
 exact ⟨hI.wgt v y hy pos, hI.dep v y hy pos⟩
 have h0 : un c m g.length = 0 := by
  have := hI.cnt
  omega
 have hall := List.countP_eq_zero.1 h0 v.toNat (List.mem_range.2 oa)
 have hc := (qbV (h.idem v hv)).2
 have hy' := (qbV hy).2
 have hr : zae c v.toNat = true := by
  unfold zae
  rw [hc]
  simp
  omega
 rw [hr, j2] at hall
 unfold unS at hall
 rw [hy'] at hall
 simpa using hall
theorem qqP {M : Nat} (hM : M ≤ 1000000000) {g : List Nd} (hg : g.length ≤ 1000000000) {c : List Int} (h : StG g c) (hk : Kd M g) (fuel : Nat) (hf : g.length + M + 1 < fuel) : ∃ m ok, qaY fuel g c = some (m, ok) ∧ (ok = true → ∀ v ∈ c, ((∃ y, zi m v = some y) ∧ yD M g c g.length v) ∧ ∀ y, zi m v = some y → y.fh ≤ 200 → zaY g c v y.fh) := by
 obtain ⟨m, ok, e, h⟩ := qAc hM hg h hk fuel hf
 exact ⟨m, ok, e, fun h1 v hv => ⟨(h h1 v hv).1, fun y hy => ((h h1 v hv).2 y hy).1⟩⟩
theorem qBH {M : Nat} (hM : M ≤ 1000000000) {g : List Nd} (hg : g.length ≤ 1000000000) {c : List Int} (h : StG g c) (hk : Kd M g) (fuel : Nat) (hf : g.length + M + 1 < fuel) : ∃ m ok, qaY fuel g c = some (m, ok) ∧ (ok = true → ∀ v ∈ c, (∃ y, zi m v = some y) ∧ yD M g c g.length v) := by
 obtain ⟨m, ok, e, h⟩ := qqP hM hg h hk fuel hf
 exact ⟨m, ok, e, fun h1 v hv => (h h1 v hv).1⟩
/-! ### the variables of the reference -/
theorem qCc (n : Int) : ∀ l : List Int, qcc (some false) n l = some (decide (n ∈ l))
 | [] => by rw [qcc]; rfl
 | x :: l => by
  rw [qcc, qCc n l]
  by_cases h : x = n
  subst h; simp
  have h' : n ≠ x := fun e => h e.symm
  rw [beq_false_of_ne h]
  simp [h']
theorem qEd (l : List Int) (n : Int) : qf8 l n = some (decide (n ∈ l)) := qCc n l
theorem qyt (t : T) : qel t = some t.used := by
 rw [qel, T.used]
 by_cases h : t.k = 2
 rw [if_pos h, show (t.k == (2 : Int)) = true by simpa using h]; rfl
 rw [if_neg h, show (t.k == (2 : Int)) = false by simpa using h]; rfl
theorem qyz {rec : List Int → T → Option (List Int)} (k : List Int → Option (List Int)) : ∀ (ts : List T) (l : List Int) (m : Nat), (∀ t ∈ ts, ∀ l : List Int, l.length + wt t ≤ m → rec l t = some (yj l (yh t))) → l.length + wtL ts ≤ m → qaq k rec ts l = k (yj l (zu ts))
 | [], l, m, _, _ => by rw [qaq]; simp [zu, qpE]
 | t :: ts, l, m, h, hm => by
  simp only [wtL] at hm
  rw [qaq, h t (jd ..) l oa]
  simp only [ja]
  have hl := qnt (yh t) l
  have ho := qzw t
  rw [qyz k ts _ m (fun u hu => h u (jf _ hu)) oa, ← quc]
  simp [zu]
theorem qwc : ∀ (fuel : Nat) (t : T) (l : List Int), wt t < fuel → l.length + wt t ≤ 1000000000 → qcu fuel l t = some (yj l (yh t))
 | 0, _, _, h, _ => by omega
 | fuel + 1, t, l, h, hm => by
  rw [qcu]
  have hwt := qiI t
  have key : ∀ l' : List Int, l'.length ≤ l.length + 1 → qaq (fun l_9 => some l_9) (qcu fuel) t.used l' = some (yj l' (zu t.used)) := fun l' hl' => by
   have hu := qok t
   refine qyz _ t.used l' (l'.length + wtL t.used) (fun u hu' l2 hl2 => qwc fuel u l2 ?_ ?_) (jk _)
   have := qDo hu'; omega
   omega
  show qcT _ _ _ = _
  unfold qcT
  rw [qEd]
  simp only [ja, qyt]
  by_cases hk : t.k = 1
  rw [show (t.k == (1 : Int)) = true by simpa using hk]
  have hused : t.used = [] := by unfold T.used; rw [if_neg oa]
  have hocc := qt3 hk
  simp only [cond_true]
  by_cases hx : t.i ∈ l
  rw [decide_eq_true hx]
  simp only [jL, cond_false]
  rw [key l oa, hocc, hused]
  simp [zu, yj, zaQ, hx]
  rw [decide_eq_false hx]
  simp only [Bool.not_false, cond_true]
  rw [qk5 oe oe]
  simp only [ja]
  rw [key _ og, hocc, hused]
  simp [zu, yj, zaQ, hx]
  rw [show (t.k == (1 : Int)) = false by simpa using hk]
  simp only [cond_false]
  rw [key l oa, qAP hk]
theorem qqB (fuel : Nat) (k : List Int → Option (List Int)) : ∀ (ts : List T) (l : List Int), wtL ts < fuel → l.length + wtL ts ≤ 1000000000 → qbu k fuel ts l = k (yj l (zu ts))
 | [], l, _, _ => by rw [qbu]; simp [zu, qpE]
 | t :: ts, l, h, hm => by
  simp only [wtL] at h hm
  rw [qbu, qwc fuel t l oa oa]
  simp only [ja]
  have hl := qnt (yh t) l
  have ho := qzw t
  rw [qqB fuel k ts _ oa oa, ← quc]
  simp [zu]
theorem qnq (fuel : Nat) (ts : List T) (h : wtL ts < fuel) (hm : wtL ts ≤ 1000000000) : qbD fuel ts = some (yj [] (zu ts)) := by
 rw [qbD, qqB fuel _ ts [] h (by simpa using hm)]
theorem qvW (c : List Int) : cnt c ≤ c.length := by
 have := qnt c []
 simpa [cnt] using this
abbrev BsR := Option (List (Int × T) × Int)
theorem qtg (k : Int → BsR) (q : Nd) : ∀ (l : List (Int × T)) (i : Nat), ∃ j : Nat, i ≤ j ∧ j ≤ i + l.length ∧ qbT k q l i = k (j : Int)
 | [], i => ⟨i, jk _, jk _, by rw [qbT]⟩
 | x :: l, i => by
  rw [qbT, jg]
  by_cases h : x.1 < q.fj
  obtain ⟨j, h1, h2, e⟩ := qtg k q l (i + 1)
  exact ⟨j, by omega, by omega, by rw [decide_eq_true h, cond_true, e]⟩
  exact ⟨i, jk _, by omega, by rw [decide_eq_false h, cond_false]⟩
theorem qtZ (k : Int → BsR) (q : Nd) : ∀ (l : List (Int × T)) (i : Nat), ∃ j : Nat, i ≤ j ∧ j ≤ i + l.length ∧ qbO k q l i = k (j : Int)
 | [], i => ⟨i, jk _, jk _, by rw [qbO]⟩
 | x :: l, i => by
  rw [qbO, jg]
  by_cases h : x.1 < q.fj
  obtain ⟨j, h1, h2, e⟩ := qtZ k q l (i + 1)
  exact ⟨j, by omega, by omega, by rw [decide_eq_true h, cond_true, e]⟩
  exact ⟨i, jk _, by omega, by rw [decide_eq_false h, cond_false]⟩
theorem qof (k : List (Int × T) → BsR) (out : List (Int × T)) (x : Int × T) (j : Nat) (hj : j ≤ out.length) (hl : out.length ≤ 1000000000) :
 ((zZ out 0 (j : Int)).bind fun l_51 => ((zF 64 [] l_51).bind fun l_52 => ((zF 64 l_52 [x]).bind fun l_54 => ((zZ out (j : Int) (out.length : Int)).bind fun l_56 => ((zF 64 l_54 l_56).bind fun l_57 => k l_57))))) = k (out.take j ++ [x] ++ out.drop j) := by
 have h1 : zZ out 0 (j : Int) = some (out.take j) := by
  unfold zZ
  rw [if_pos oa]
  simp
 have h2 : zZ out (j : Int) (out.length : Int) = some (out.drop j) := by
  unfold zZ
  rw [if_pos oa]
  simp
 rw [h1, ja, qnC oa oe, ja, jo, qnC oa oe, ja, h2, ja, qnC oa oe, ja]
theorem qxn {M : Nat} {g : List Nd} (hg : g.length ≤ 1000000000) {c : List Int} (h : StG g c) (fuel : Nat) (hf : g.length + M + 2 ≤ fuel) (m : List Ms × Bool) (hm : ∀ v ∈ c, (∃ y, zi m.1 v = some y) ∧ yD M g c g.length v) :
 ∀ (n i : Nat) (out : List (Int × T)), g.length < n + i → i ≤ g.length → out.length ≤ i → ∃ r, q0 (fun out_24 => some (out_24, 0)) fuel m n out (i : Int) g c = some r
 | 0, i, out, h1, h2, _ => by omega
 | n + 1, i, out, h1, h2, h3 => by
  have hl := h.len
  rw [q0]
  by_cases hi : i < g.length
  · obtain ⟨v, hv, hvm⟩ := yo (l := c) (i := (i : Int)) oa oa
    obtain ⟨q, hq, hqm⟩ := yo (l := g) (i := (i : Int)) oa oa
    obtain ⟨⟨y, hy⟩, ht⟩ := hm v hvm
    obtain ⟨t, ht⟩ := ht fuel hf
    obtain ⟨r, hr, _⟩ := qjs h v
    obtain ⟨s, hs⟩ := qqa h v
    have hi' : wr ((i : Int) + 1) = ((i + 1 : Nat) : Int) := by
     rw [qgA oa]
     omega
    have next := fun out ho => qxn hg h fuel hf m hm n (i + 1) out oa oa ho
    rw [decide_eq_true oa, cond_true, hv, ja, hq, ja, hi']
    cases (q.fa != (1 : Int)) with
    | true => exact next out oa
    | false =>
     rw [cond_false, hr, ja]
     cases (decide (r < 0)) with
     | true =>
      rw [cond_true, hs, ja]
      cases (s == q.fj) with
      | true => exact next out oa
      | false =>
       rw [cond_false, hy, ja]
       cases (decide (y.fh > 200)) with
       | true => exact ⟨_, rfl⟩
       | false =>
        rw [cond_false]
        cases (decide (y.fm > 20)) with
        | true => exact ⟨_, rfl⟩
        | false =>
         rw [cond_false, ht, ja]
         obtain ⟨j, _, hj, e⟩ := qtg _ q out 0
         rw [e, qof _ out _ j oa oa]
         exact next _ oe
     | false =>
      rw [cond_false, hy, ja]
      cases (decide (y.fh > 200)) with
      | true => exact ⟨_, rfl⟩
      | false =>
       rw [cond_false]
       cases (decide (y.fm > 20)) with
       | true => exact ⟨_, rfl⟩
       | false =>
        rw [cond_false, ht, ja]
        obtain ⟨j, _, hj, e⟩ := qtZ _ q out 0
        rw [e, qof _ out _ j oa oa]
        exact next _ oe
  rw [decide_eq_false oa, cond_false]
  exact ⟨_, rfl⟩
theorem qw5 {M : Nat} (b : List T) (fuel : Nat) (hf : 1500000000 < fuel) (hM : M ≤ 300000000) (k : List Nd → List Int → BsR) (hk : ∀ g c, StG g c → Kd M g → g.length ≤ 600000000 → ∃ r, k g c = some r) (hb : ∀ t ∈ b, yM t ∧ wt t ≤ M) :
 ∀ (l : List T) (i : Nat) (g : List Nd) (c : List Int), i + l.length = b.length → (∀ t ∈ l, yM t ∧ wt t ≤ M) → StG g c → Kd M g → zbG g → g.length + wtL l + wtL (b.drop i) ≤ 600000000 → ∃ r, qO k b fuel l i g c = some r
 | [], i, g, c, _, _, hs, hkd, _, hw => by
  rw [qO]
  exact hk g c hs hkd oa
 | t :: l, i, g, c, hi, ht, hs, hkd, hv, hw => by
  rw [jg] at hi
  obtain ⟨u, hu, hum⟩ := yo (l := b) (i := (i : Int)) oa oa
  have hdrop : wtL (b.drop i) = wt u + wtL (b.drop (i + 1)) := by
   rw [qdQ] at hu
   rw [jY oa, wtL]
   congr 1
   rw [jq oa] at hu
   exact congrArg wt (Option.some.inj hu)
  rw [wtL, hdrop] at hw
  obtain ⟨x, g1, c1, e1, E1, v1, _⟩ := qiF fuel t g c (ht t (jd ..)).1 oa (ht t (jd ..)).2 hs hkd hv oa
  obtain ⟨s1, k1, m1, x0, x1⟩ := E1
  have hl1 := zah.le (M := M) (c := c) (c1 := c1) ⟨s1, k1, m1⟩
  obtain ⟨y, g2, c2, e2, E2, v2, _⟩ := qiF fuel u g1 c1 (hb u hum).1 (by have := (hb u hum).2; omega) (hb u hum).2 s1 k1 v1 oa
  obtain ⟨s2, k2, m2, y0, y1⟩ := E2
  have hl2 := zah.le (M := M) (c := c1) (c1 := c2) ⟨s2, k2, m2⟩
  have hc := qvW c2
  have hcl := s2.len
  obtain ⟨ok, c3, e3, s3, _, _⟩ := qpB (g := g2) oa fuel x y c2 s2 oa oa x0 oa y0 y1
  rw [qO, e1, ja, hu, ja]
  dsimp only
  rw [e2, ja]
  dsimp only
  rw [e3, ja]
  cases ok with
  | false => exact ⟨_, rfl⟩
  | true =>
   rw [jL, cond_false]
   exact qw5 b fuel hf hM k hk hb l (i + 1) g2 c3 oa (fun t h => ht t (jf _ h)) s3 k2 v2 oa
theorem qAv (fuel : Nat) (hf : 1500000000 < fuel) (a b : List T) (hl : a.length = b.length) (ha : ∀ t ∈ a, yM t) (hb : ∀ t ∈ b, yM t) (wa : wtL a ≤ 300000000) (wb : wtL b ≤ 300000000) : ∃ r, qcs fuel a b = some r := by
 unfold qcs
 refine qw5 (M := 300000000) b fuel hf (jk _) _ (fun g c hs hk hg => ?_) (fun t ht => ⟨hb t ht, by have := qgo ht; omega⟩) a 0 [] [] oa (fun t ht => ⟨ha t ht, by have := qgo ht; omega⟩) ⟨rfl, fun v hv => by simp at hv, fun v hv => by simp at hv, fun q hq => by simp at hq⟩ (fun q hq => by simp at hq) (fun q hq => by simp at hq) oe
 obtain ⟨m, ok, e, hok⟩ := qBH (M := 300000000) oa oa hs hk fuel oa
 rw [e, ja]
 cases ok with
 | false => exact ⟨_, rfl⟩
 | true =>
  dsimp only
  rw [jL, cond_false]
  exact qxn (M := 300000000) oa hs fuel oa (m, true) (hok rfl) fuel 0 [] oa oa og
mutual
theorem qsg : ∀ t : T, zM t = true → yM t
 | .mk k i s ar, h => by
  refine .mk _ (fun h1 => ?_) fun u hu => ?_
  rw [qqK h1] at h
  have h := of_decide_eq_true h
  refine ⟨qnK (h.2.2.1.trans (by rw [Lib.toList_data])), jA h.2.2.2⟩
  by_cases h2 : k = 2
  subst h2
  rw [qnn rfl, jj] at h
  exact qqA ar h.2 u hu
  have h0 : ar.length = 0 := by
   rcases Classical.em (k = 0) with e | e
   subst e
   rw [qnY rfl] at h
   exact (of_decide_eq_true h).2.2.2
   rcases Classical.em (k = 1) with e1 | e1
   subst e1
   rw [qqK rfl] at h
   exact (of_decide_eq_true h).2.2.2
   rw [qoP (t := .mk k i s ar) e e1 h2] at h
   cases h
  rw [jA h0] at hu
  cases hu
theorem qqA : ∀ l : List T, zL l = true → ∀ t ∈ l, yM t
 | [], _, t, ht => by cases ht
 | u :: l, h, t, ht => by
  rw [zL, jj] at h
  rcases jh.1 ht with e | ht
  rw [e]
  exact qsg u h.1
  exact qqA l h.2 t ht
end
theorem qhD {t : T} (h : zN t = true) : yM t := by
 unfold zN at h
 simp only [jj] at h
 exact qsg t h.1.1
theorem qqb (k : BsR) (Q : BsR → Prop) (hno : Q (some ([], 2))) : ∀ l : List T, wtL l ≤ 300000000 → ((∀ t ∈ l, zN t = true) → Q k) → Q (qcj k l)
 | [], _, h => by
  rw [qcj]
  exact h fun t ht => by cases ht
 | t :: l, hw, h => by
  rw [wtL] at hw
  rw [qcj, qji t oa, ja]
  cases hr : zN t with
  | false => exact hno
  | true =>
   rw [jL, cond_false]
   refine qqb k Q hno l oa fun hl => h fun u hu => ?_
   rcases jh.1 hu with rfl | hu
   exact hr
   exact hl u hu
theorem qqX (k : BsR) (Q : BsR → Prop) (hno : Q (some ([], 2))) : ∀ l : List T, wtL l ≤ 300000000 → ((∀ t ∈ l, zN t = true) → Q k) → Q (qb9 k l)
 | [], _, h => by
  rw [qb9]
  exact h fun t ht => by cases ht
 | t :: l, hw, h => by
  rw [wtL] at hw
  rw [qb9, qji t oa, ja]
  cases hr : zN t with
  | false => exact hno
  | true =>
   rw [jL, cond_false]
   refine qqX k Q hno l oa fun hl => h fun u hu => ?_
   rcases jh.1 hu with rfl | hu
   exact hr
   exact hl u hu
theorem qBE (fuel : Nat) (hf : 1500000000 < fuel) (a b : List T) (wa : wtL a ≤ 300000000) (wb : wtL b ≤ 300000000) : ∃ r, qaQ fuel a b = some r := by
 unfold qaQ
 refine qqb _ (fun x => ∃ r, x = some r) ⟨_, rfl⟩ a wa fun ha => qqX _ (fun x => ∃ r, x = some r) ⟨_, rfl⟩ b wb fun hb => ?_
 by_cases h : a.length = b.length
 rw [show ((a.length : Int) != (b.length : Int)) = false by simp [h], cond_false]
 obtain ⟨r, e⟩ := qAv fuel hf a b h (fun t ht => qhD (ha t ht)) (fun t ht => qhD (hb t ht)) wa wb
 exact ⟨_, by rw [e, ja]⟩
 rw [show ((a.length : Int) != (b.length : Int)) = true by simp; omega, cond_true]
 exact ⟨_, rfl⟩
theorem qs7 (fuel : Nat) (hf : 1500000000 < fuel) (a b : T) (wa : wt a ≤ 300000000) (wb : wt b ≤ 300000000) : ∃ r, qb6 fuel a b = some r := by
 unfold qb6 qfC
 obtain ⟨r, e⟩ := qBE fuel hf [a] [b] (by simp [wtL]; omega) (by simp [wtL]; omega)
 rw [e, ja, ja]
 cases (r.2 == (0 : Int)) with
 | true => exact ⟨_, rfl⟩
 | false => exact ⟨_, rfl⟩
/-! ### arithmetic -/
theorem qnf (n : Int) : ∃ b, qaH n = some b := by
 unfold qaH
 cases (decide (n ≥ -2147483648)) with
 | true => exact ⟨_, rfl⟩
 | false => exact ⟨_, rfl⟩
theorem qvg (s : ByteArray) : ∃ b, qcH s = some b := by
 unfold qcH
 cases (s.toList == (⟨#[43]⟩ : ByteArray).toList) with
 | true => exact ⟨_, rfl⟩
 | false =>
  cases (s.toList == (⟨#[45]⟩ : ByteArray).toList) with
  | true => exact ⟨_, rfl⟩
  | false =>
   cases (s.toList == (⟨#[42]⟩ : ByteArray).toList) with
   | true => exact ⟨_, rfl⟩
   | false =>
    cases (s.toList == (⟨#[47]⟩ : ByteArray).toList) with
    | true => exact ⟨_, rfl⟩
    | false => exact ⟨_, rfl⟩
theorem qzT (s : ByteArray) : ∃ b, qdh s = some b := by
 unfold qdh
 cases (s.toList == (⟨#[43]⟩ : ByteArray).toList) with
 | true => exact ⟨_, rfl⟩
 | false =>
  cases (s.toList == (⟨#[45]⟩ : ByteArray).toList) with
  | true => exact ⟨_, rfl⟩
  | false =>
   cases (s.toList == (⟨#[42]⟩ : ByteArray).toList) with
   | true => exact ⟨_, rfl⟩
   | false =>
    cases (s.toList == (⟨#[47]⟩ : ByteArray).toList) with
    | true => exact ⟨_, rfl⟩
    | false => exact ⟨_, rfl⟩
theorem qtn (a : Int) {b : Int} (h : b ≠ 0) : ∃ r, zbW a b = some r := by
 unfold zbW
 rw [if_neg h]
 exact ⟨_, rfl⟩
theorem qzv {n : Int} (h : qaH n = some true) : -2147483648 ≤ n ∧ n ≤ 2147483648 := by
 unfold qaH at h
 by_cases h1 : n ≥ -2147483648
 rw [decide_eq_true h1, cond_true] at h
 have := of_decide_eq_true (Option.some.inj h)
 omega
 rw [decide_eq_false h1, cond_false] at h
 cases h
theorem qAn (a b : Int) (hb : b ≠ 0) (h : -2147483648 ≤ b ∧ b ≤ 2147483648) : ∃ r, qeJ a b = some r := by
 unfold qeJ
 have hw : wr (-b) = -b := qgA oa
 rw [hw]
 cases (decide (b < 0)) with
 | true =>
  cases (decide (wr (-a) ≥ 0)) with
  | true =>
   obtain ⟨r, e⟩ := qtn (wr (-a)) (b := -b) oa
   exact ⟨_, by rw [cond_true, cond_true, e, ja]⟩
  | false =>
   obtain ⟨r, e⟩ := qtn (wr (wr (-b - 1) - wr (-a))) (b := -b) oa
   exact ⟨_, by rw [cond_true, cond_false, e, ja]⟩
 | false =>
  cases (decide (a ≥ 0)) with
  | true =>
   obtain ⟨r, e⟩ := qtn a hb
   exact ⟨_, by rw [cond_false, cond_true, e, ja]⟩
  | false =>
   obtain ⟨r, e⟩ := qtn (wr (wr (b - 1) - a)) hb
   exact ⟨_, by rw [cond_false, cond_false, e, ja]⟩
theorem qbp {α β : Type} {x : Option α} {f : α → Option β} (h : ∃ r, x = some r) (k : ∀ r, x = some r → ∃ s, f r = some s) : ∃ s, x.bind f = some s := by
 obtain ⟨r, e⟩ := h
 obtain ⟨s, e2⟩ := k r e
 exact ⟨s, by rw [e, ja, e2]⟩
theorem qaR {β : Type} {b : Bool} {x y : Option β} (h : b = true → ∃ s, x = some s) (k : b = false → ∃ s, y = some s) : ∃ s, (bif b then x else y) = some s := by
 cases b with
 | true => exact h rfl
 | false => exact k rfl
theorem qaj {β : Type} (a : β) : ∃ s, some a = some s := ⟨a, rfl⟩
theorem qyV (s : ByteArray) (a b : Int) : ∃ r, qdZ s a b = some r := by
 unfold qdZ
 refine qbp (qvg s) fun r _ => qaR (fun _ => qaj _) fun _ => qbp (qnf a) fun r2 _ => qaR (fun _ => qaj _) fun _ => qbp (qnf b) fun r3 hr3 => qaR (fun _ => qaj _) fun h3 => ?_
 have hb := qzv (n := b) (by
  rw [hr3]
  simpa using h3)
 refine qaR (fun _ => qbp (qnf _) fun _ _ => qaR (fun _ => qaj _) fun _ => qaj _) fun _ => qaR (fun _ => qbp (qnf _) fun _ _ => qaR (fun _ => qaj _) fun _ => qaj _) fun _ => qaR (fun _ => qbp (qnf _) fun _ _ => qaR (fun _ => qaj _) fun _ => qaj _) fun _ => qaR (fun _ => qaj _) fun hz => ?_
 refine qbp (qAn a b (by simpa using hz) hb) fun _ _ => qaR (fun _ => qbp (qnf _) fun _ _ => qaR (fun _ => qaj _) fun _ => qaj _) fun _ => qbp (qnf _) fun _ _ => qaR (fun _ => qaj _) fun _ => qaj _
theorem args2 {α : Type} {l : List α} (h : (l.length : Int) = 2) : ∃ a b, l = [a, b] := by
 have h : l.length = 2 := by omega
 match l, h with
 | [a, b], _ => exact ⟨a, b, rfl⟩
theorem qod : ∀ (fuel : Nat) (t : T), wt t < fuel → ∃ r, qcX fuel t = some r
 | 0, _, h => absurd h (vh _)
 | fuel + 1, t, h => by
  rw [qcX]
  dsimp only
  refine qaR (fun _ => qbp (qnf _) fun _ _ => qaR (fun _ => qaj _) fun _ => qaj _) fun _ => qaR (fun _ => qaj _) fun _ => qaR (fun _ => qaj _) fun _ => qbp (qvg _) fun _ _ => qaR (fun _ => qaj _) fun _ => qaR (fun _ => qaj _) fun hl => ?_
  obtain ⟨a, b, hab⟩ := args2 (l := t.ar) (by simpa using hl)
  have ha := qyg (t := t) (u := a) (by rw [hab]; simp)
  have hb := qyg (t := t) (u := b) (by rw [hab]; simp)
  rw [hab]
  refine qbp (qaj a) fun q hq => ?_
  obtain rfl := Option.some.inj hq
  refine qbp (qod fuel a oa) fun _ _ => qaR (fun _ => qaj _) fun _ => qbp (qaj b) fun q hq => ?_
  obtain rfl := Option.some.inj hq
  exact qbp (qod fuel b oa) fun _ _ => qaR (fun _ => qaj _) fun _ => qbp (qyV _ _ _) fun _ _ => qaj _
theorem qmh : ∀ (fuel : Nat) (t : T), wt t < fuel → ∃ r, qcR fuel t = some r
 | 0, _, h => absurd h (vh _)
 | fuel + 1, t, h => by
  rw [qcR]
  dsimp only
  refine qaR (fun _ => qaj _) fun _ => qaR (fun _ => qaj _) fun _ => qaR (fun _ => qbp (qzT _) fun _ _ => qaR (fun _ => qaR (fun hl => ?_) fun _ => qaj _) fun _ => qaj _) fun _ => qaj _
  obtain ⟨a, b, hab⟩ := args2 (l := t.ar) (by simpa using hl)
  have ha := qyg (t := t) (u := a) (by rw [hab]; simp)
  have hb := qyg (t := t) (u := b) (by rw [hab]; simp)
  rw [hab]
  refine qbp (qaj a) fun q hq => ?_
  obtain rfl := Option.some.inj hq
  refine qbp (qmh fuel a oa) fun _ _ => qaR (fun _ => qbp (qaj b) fun q hq => ?_) fun _ => qaj _
  obtain rfl := Option.some.inj hq
  exact qbp (qmh fuel b oa) fun _ _ => qaj _
theorem qsX (fuel : Nat) (t : T) (h : wt t < fuel) (hm : wt t ≤ 1000000000) : qdA fuel t = some (yj [] (yh t)) := by
 unfold qdA
 rw [qwc fuel t [] h (by simpa using hm), ja]
theorem qoN (fuel : Nat) (t : T) (h : wt t < fuel) (hm : wt t ≤ 1000000000) : ∃ b, qc1 fuel t = some b := by
 unfold qc1
 rw [qsX fuel t h hm, ja]
 exact ⟨_, rfl⟩
theorem qA1 (b : Bool) : qS b = some (if b = true then 1 else 2) := by
 cases b <;> rfl
theorem qiR (b : Bool) : ∃ r, qS b = some r := ⟨_, qA1 b⟩
theorem qye (fuel : Nat) (op : Int) (a b : T) (ha : wt a < fuel) (hb : wt b < fuel) (ha2 : wt a ≤ 1000000000) (hb2 : wt b ≤ 1000000000) : ∃ r, qeB fuel op a b = some r := by
 unfold qeB
 refine qbp (qmh fuel a ha) fun _ _ => qaR (fun _ => qaj _) fun _ => qbp (qmh fuel b hb) fun _ _ => qaR (fun _ => qaj _) fun _ => qbp (qoN fuel a ha oa) fun _ _ => qaR (fun _ => qaj _) fun _ => qbp (qoN fuel b hb oa) fun _ _ => qaR (fun _ => qaj _) fun _ => qbp (qod fuel a ha) fun _ _ => qbp (qod fuel b hb) fun _ _ => qaR (fun _ => qaj _) fun _ => qaR (fun _ => qaj _) fun _ => qaR (fun _ => qbp (qiR _) fun _ _ => qaj _) fun _ => qaR (fun _ => qbp (qiR _) fun _ _ => qaj _) fun _ => qaR (fun _ => qbp (qiR _) fun _ _ => qaj _) fun _ => qbp (qiR _) fun _ _ => qaj _
/-! ### Test -/
theorem quO (g : Gl) (h : wtL g.ts ≤ 1000000000) : qdD g = some (decide (5 ≤ g.op ∧ g.op ≤ 12) && zy g) := by
 unfold qdD
 by_cases h1 : g.op ≥ 5
 rw [decide_eq_true h1, cond_true]
 by_cases h2 : g.op ≤ 12
 rw [decide_eq_true h2, cond_true, qh5 g oa, ja, decide_eq_true ⟨h1, h2⟩, j2]
 rw [decide_eq_false h2, cond_false, decide_eq_false fun h => h2 h.2, Bool.false_and]
 rw [decide_eq_false h1, cond_false, decide_eq_false fun h => h1 h.1, Bool.false_and]
theorem qoX {g : Gl} (h0 : g.op ≠ 0) (h : zy g = true) : yK g.op = (g.ts.length : Int) ∧ ye g.ts = true := by
 unfold zy at h
 rw [if_neg h0] at h
 simp only [jj, decide_eq_true_eq] at h
 exact ⟨h.1.2, h.2⟩
theorem qBQ (fuel : Nat) (hf : 1500000000 < fuel) (g : Gl) (h : wtL g.ts ≤ 300000000) : ∃ r, qeh fuel g = some r := by
 unfold qeh
 rw [quO g oa, ja]
 refine qaR (fun _ => qaR (fun _ => qbp ⟨_, qh5 g oa⟩ fun _ _ => qbp (qiR _) fun _ _ => qaj _) fun _ => qbp (qiR _) fun _ _ => qaj _) fun hT => ?_
 have hT : (5 ≤ g.op ∧ g.op ≤ 12) ∧ zy g = true := by
  simpa only [Bool.not_eq_false', jj, decide_eq_true_eq] using hT
 obtain ⟨⟨h5, h12⟩, hr⟩ := hT
 obtain ⟨hlen, _⟩ := qoX oa hr
 have hpos : 0 < g.ts.length := by
  unfold yK at hlen
  repeat' split at hlen
  all_goals omega
 obtain ⟨a, ha, ham⟩ := yo (l := g.ts) (i := 0) oa oa
 have hwa := qgo ham
 rw [ha, ja]
 refine qaR (fun _ => qaR (fun _ => qaj _) fun _ => qbp (qiR _) fun _ _ => qaj _) fun h11 => qaR (fun _ => qbp (qoN fuel a oa oa) fun _ _ => qaR (fun _ => qaj _) fun _ => qaj _) fun h12' => ?_
 have e11 : g.op ≠ 11 := by simpa using h11
 have e12 : g.op ≠ 12 := by simpa using h12'
 have h2 : g.ts.length = 2 := by
  unfold yK at hlen
  repeat' split at hlen
  all_goals omega
 obtain ⟨b, hb, hbm⟩ := yo (l := g.ts) (i := 1) oa oa
 have hwb := qgo hbm
 have uni : ∃ r, ((qb6 fuel a b).bind fun r_23 => (bif (!r_23) then ((qS (g.op == (6 : Int))).bind fun r_25 => some (r_25)) else some (0))) = some r := qbp (qs7 fuel hf a b oa oa) fun _ _ => qaR (fun _ => qbp (qiR _) fun _ _ => qaj _) fun _ => qaj _
 have sam : ∃ r, ((qm6 a b).bind fun r_20 => (bif r_20 then ((qS (g.op == (5 : Int))).bind fun r_22 => some (r_22)) else ((qb6 fuel a b).bind fun r_23 => (bif (!r_23) then ((qS (g.op == (6 : Int))).bind fun r_25 => some (r_25)) else some (0))))) = some r := qbp ⟨_, qsh a b oa⟩ fun _ _ => qaR (fun _ => qbp (qiR _) fun _ _ => qaj _) fun _ => uni
 rw [hb, ja]
 exact qaR (fun _ => qaR (fun _ => qbp (qye fuel g.op a b oa oa oa oa) fun _ _ => qaj _) fun _ => sam) fun _ => sam
theorem qst {t : T} (h : t.k = 1) : yh t = [t.i] := qt3 h
theorem qsN {t : T} (h : t.k = 2) : yh t = zu t.ar := by cases t; simp only [T.k] at h; subst h; simp [yh, T.ar]
theorem qEA {t : T} (h1 : t.k ≠ 1) (h2 : t.k ≠ 2) : yh t = [] := by cases t; simp only [T.k] at h1 h2; simp [yh, h1, h2]
theorem qpH {β : Type} : ∀ (l m : List (Int × β)) (v : Int), zt (l ++ m) v = (zt l v).or (zt m v)
 | [], m, v => rfl
 | q :: l, m, v => by
  rw [jB, zt, zt]
  split
  rfl
  exact qpH l m v
abbrev En := List (Int × T)
/-! ### environments -/
theorem qxe (v : Int) (k : Option Int) : ∀ (l : En) (i : Nat), (zt l v = none ∧ qa5 k v l i = k) ∨ ∃ (j : Nat) (q : Int × T), qa5 k v l i = some ((i + j : Nat) : Int) ∧ l[j]? = some q ∧ zt l v = some q.2
 | [], i => .inl ⟨rfl, by rw [qa5]⟩
 | q :: l, i => by
  rw [qa5, zt]
  by_cases h : q.1 = v
  rw [if_pos h, uT h, cond_true]
  exact .inr ⟨0, q, rfl, rfl, rfl⟩
  rw [if_neg h, uF h, cond_false]
  rcases qxe v k l (i + 1) with h | ⟨j, p, h1, h2, h3⟩
  exact .inl h
  exact .inr ⟨j + 1, p, by rw [h1, show i + 1 + j = i + (j + 1) by omega], by simpa using h2, h3⟩
theorem qwe (env : En) (v : Int) : (zt env v = none ∧ qdX env v = some (-1)) ∨ ∃ (r : Int) (q : Int × T), qdX env v = some r ∧ 0 ≤ r ∧ zi env r = some q ∧ zt env v = some q.2 ∧ q ∈ env := by
 rcases qxe v (some (-1)) env 0 with h | ⟨j, q, h1, h2, h3⟩
 exact .inl h
 rw [ju] at h1
 exact .inr ⟨_, q, h1, by omega, by rw [qdQ]; exact h2, h3, List.mem_of_getElem? h2⟩
theorem qvb (k : Int → Option En) (b : Int × T) : ∀ (l : En) (i : Nat), ∃ j : Nat, i ≤ j ∧ j ≤ i + l.length ∧ qbv k b l i = k (j : Int)
 | [], i => ⟨i, jk _, jk _, by rw [qbv]⟩
 | x :: l, i => by
  rw [qbv, jg]
  by_cases h : x.1 ≤ b.1
  obtain ⟨j, h1, h2, e⟩ := qvb k b l (i + 1)
  exact ⟨j, by omega, by omega, by rw [decide_eq_true h, cond_true, e]⟩
  exact ⟨i, jk _, by omega, by rw [decide_eq_false h, cond_false]⟩
def upd (f : Int → Option T) (v : Int) (u : T) : Int → Option T := fun x => if x = v then some u else f x
theorem qym (l : En) (j : Nat) (v : Int) : zt l v = (zt (l.take j) v).or (zt (l.drop j) v) := by rw [← qpH, vc]
theorem qy9 (env : En) (v : Int) (u : T) (hl : env.length ≤ 1000000) (h : zt env v = none) : ∃ env', qeA env (v, u) = some env' ∧ env'.length = env.length + 1 ∧ zt env' = upd (zt env) v u ∧ ∀ q ∈ env', q ∈ env ∨ q = (v, u) := by
 unfold qeA
 obtain ⟨j, _, hj, e⟩ := qvb (fun k_3 => ((zZ env 0 k_3).bind fun l_5 => ((zF 64 [] l_5).bind fun l_6 => ((zF 64 l_6 [(v, u)]).bind fun l_8 => ((zZ env k_3 (env.length : Int)).bind fun l_10 => ((zF 64 l_8 l_10).bind fun l_11 => some (l_11))))))) (v, u) env 0
 have h1 : zZ env 0 (j : Int) = some (env.take j) := by
  unfold zZ
  rw [if_pos oa]
  simp
 have h2 : zZ env (j : Int) (env.length : Int) = some (env.drop j) := by
  unfold zZ
  rw [if_pos oa]
  simp
 refine ⟨env.take j ++ [(v, u)] ++ env.drop j, ?_, by simp; omega, funext fun x => ?_, fun q hq => ?_⟩
 rw [e, h1, ja, qnC oa oe, ja, jo, qnC oa oe, ja, h2, ja, qnC oa oe, ja]
 have hs := qym env j
 rw [ji, qpH, qpH]
 unfold upd
 by_cases hx : x = v
 subst hx
 have h0 := hs x
 rw [h] at h0
 have h3 : zt (env.take j) x = none := by
  cases hc : zt (env.take j) x with
  | none => rfl
  | some a =>
   rw [hc] at h0
   cases h0
 rw [h3, if_pos rfl]
 simp [zt]
 rw [if_neg hx, hs x]
 have : zt [(v, u)] x = none := by
  rw [zt, if_neg (fun e => hx e.symm), zt]
 rw [this, Option.none_or]
 simp only [jl, jn] at hq
 rcases hq with (hq | hq) | hq
 exact .inl (vd hq)
 exact .inr hq
 exact .inl (ve hq)
/-! ### what stands where a pattern has its variables -/
open Classical in
mutual
def vT : T → T → Option (List T)
 | .mk k i s ar, t => if k = 2 then (if t.k = 2 ∧ s = t.s then vL ar t.ar else none) else if k = 1 then some [t] else if yV (.mk k i s ar) t = true then some [] else none
def vL : List T → List T → Option (List T)
 | [], [] => some []
 | p :: ps, t :: ts => (vT p t).bind fun a => (vL ps ts).bind fun b => some (a ++ b)
 | [], _ :: _ => none
 | _ :: _, [] => none
end
theorem qAb {p : T} (h : p.k = 2) (t : T) : vT p t = if t.k = 2 ∧ p.s = t.s then vL p.ar t.ar else none := by
 cases p
 simp only [T.k] at h
 subst h
 rw [vT, if_pos rfl]
 rfl
theorem qzX {p : T} (h : p.k = 1) (t : T) : vT p t = some [t] := by
 cases p
 simp only [T.k] at h
 subst h
 rw [vT, if_neg oa, if_pos rfl]
theorem qzr {p : T} (h1 : p.k ≠ 1) (h2 : p.k ≠ 2) (t : T) : vT p t = if yV p t = true then some [] else none := by
 cases p
 simp only [T.k] at h1 h2
 rw [vT, if_neg h2, if_neg h1]
mutual
theorem qwm : ∀ (p t : T) (l : List T), vT p t = some l → l.length = (yh p).length
 | .mk k i s ar, t, l, h => by
  rcases zaj k with h1 | h2 | ⟨h1, h2⟩
  subst h1
  rw [qzX rfl] at h
  obtain rfl := Option.some.inj h
  rw [qDH]
  rfl
  subst h2
  rw [qAb rfl] at h
  split at h
  rw [qDi]
  exact qyO ar t.ar l h
  cases h
  rw [qzr (p := .mk k i s ar) h1 h2] at h
  split at h
  obtain rfl := Option.some.inj h
  rw [qCT h1 h2]
  rfl
  cases h
theorem qyO : ∀ (ps ts l : List T), vL ps ts = some l → l.length = (zu ps).length
 | [], [], l, h => by
  rw [vL] at h
  obtain rfl := Option.some.inj h
  rfl
 | p :: ps, t :: ts, l, h => by
  rw [vL] at h
  cases ha : vT p t with
  | none =>
   rw [ha] at h
   cases h
  | some a =>
   cases hb : vL ps ts with
   | none =>
    rw [ha, hb] at h
    cases h
   | some b =>
    rw [ha, hb] at h
    obtain rfl := Option.some.inj h
    rw [zu, je, je, qwm p t a ha, qyO ps ts b hb]
 | [], _ :: _, l, h => by
  rw [vL] at h
  cases h
 | _ :: _, [], l, h => by
  rw [vL] at h
  cases h
end
/-! ### binding -/
open Classical in
def rn : (Int → Option T) → List (Int × T) → Option (Int → Option T)
 | f, [] => some f
 | f, (v, u) :: ps => match f v with
  | none => rn (upd f v u) ps
  | some u' => if yV u' u = true then rn f ps else none
theorem qqL {f : Int → Option T} {v : Int} (h : f v = none) (u : T) (ps : List (Int × T)) : rn f ((v, u) :: ps) = rn (upd f v u) ps := by rw [rn, h]
theorem qp2 {f : Int → Option T} {v : Int} {w : T} (h : f v = some w) (u : T) (ps : List (Int × T)) : rn f ((v, u) :: ps) = if yV w u = true then rn f ps else none := by rw [rn, h]
theorem qyF : ∀ (a b : List (Int × T)) (f : Int → Option T), rn f (a ++ b) = (rn f a).bind fun g => rn g b
 | [], b, f => by rw [jo, rn, ja]
 | (v, u) :: a, b, f => by
  cases h : f v with
  | none => rw [jB, qqL h, qqL h, qyF a b]
  | some w =>
   rw [jB, qp2 h, qp2 h]
   split
   exact qyF a b f
   rfl
def mtc (f : Int → Option T) (o : List Int) (v : Option (List T)) : Option (Int → Option T) := v.bind fun l => rn f (o.zip l)
theorem qC4 {f : Int → Option T} {o1 o2 : List Int} {v1 v2 : Option (List T)} (h : ∀ l, v1 = some l → l.length = o1.length) : mtc f (o1 ++ o2) (v1.bind fun a => v2.bind fun b => some (a ++ b)) = (mtc f o1 v1).bind fun g => mtc g o2 v2 := by
 unfold mtc
 cases v1 with
 | none => rfl
 | some a =>
  have ha := h a rfl
  cases v2 with
  | none =>
   simp only [ja, Option.bind_none]
   cases rn f (o1.zip a) <;> rfl
  | some b =>
   simp only [ja]
   rw [List.zip_append ha.symm, qyF]
def EnW (W : Nat) (env : En) : Prop := ∀ q ∈ env, wt q.2 ≤ W
def zb7 (W : Nat) (env : En) (n : Nat) (x : Option (Int → Option T)) (r : Option (En × Bool)) : Prop := ∃ env' ok, r = some (env', ok) ∧ ((ok = false ∧ x = none) ∨ (ok = true ∧ x = some (zt env') ∧ env'.length ≤ env.length + n ∧ EnW W env'))
theorem qAw (a b : T) (h : wt a ≤ 1000000) : qm6 a b = some (yV a b) := qsh a b oa
theorem qCX {W : Nat} (hW : W ≤ 1000000) {rec : En → List T → List T → Option (En × Bool)} {p t : T} {env : En} (hr : p.k = 2 → t.k = 2 → zb7 W env (zu p.ar).length (mtc (zt env) (zu p.ar) (vL p.ar t.ar)) (rec env p.ar t.ar)) (he : EnW W env) (hp : wt p ≤ 1000000) (ht : wt t ≤ W) (hl : env.length ≤ 1000000) :
 zb7 W env (yh p).length (mtc (zt env) (yh p) (vT p t)) (qeI rec env p t) := by
 unfold qeI
 rcases zaj p.k with h1 | h2 | ⟨h1, h2⟩
 · rw [uF (show p.k ≠ 2 by omega), cond_false, show (p.k != (1 : Int)) = false by simp [h1], cond_false, qzX h1, qst h1]
   unfold mtc
   rw [ja]
   show zb7 W env 1 (rn (zt env) [(p.i, t)]) _
   rcases qwe env p.i with ⟨hn, e⟩ | ⟨r, q, e, h0, hq, hm, hqm⟩
   · rw [e, ja, decide_eq_true oa, cond_true, qqL hn]
     obtain ⟨env', e', hl', hg, hmem⟩ := qy9 env p.i t hl hn
     refine ⟨env', true, by rw [e', ja], .inr ⟨rfl, by rw [rn, hg], by omega, fun q hq => ?_⟩⟩
     rcases hmem q hq with hq | rfl
     · exact he q hq
     · exact ht
   · have hqw := he q hqm
     rw [e, ja, decide_eq_false oa, cond_false, hq, ja, qAw _ _ oa, ja, qp2 hm]
     cases hs : yV q.2 t with
     | false => exact ⟨_, _, rfl, .inl ⟨rfl, rfl⟩⟩
     | true => exact ⟨_, _, rfl, .inr ⟨rfl, by rw [if_pos rfl, rn], by omega, he⟩⟩
 · rw [uT h2, cond_true, qAb h2, qsN h2]
   by_cases ht2 : t.k = 2
   · rw [show (t.k != (2 : Int)) = false by simp [ht2], cond_false]
     by_cases hs : p.s = t.s
     · rw [if_pos ⟨ht2, hs⟩, show (!(p.s.toList == t.s.toList)) = false by simp [hs], cond_false]
       obtain ⟨env', ok, e, h⟩ := hr h2 ht2
       exact ⟨env', ok, by rw [e, ja], h⟩
     · rw [if_neg fun h => hs h.2, show (!(p.s.toList == t.s.toList)) = true by
        simp only [vW, beq_eq_false_iff_ne]
        exact fun e => hs (qnK e), cond_true]
       exact ⟨_, _, rfl, .inl ⟨rfl, rfl⟩⟩
   · rw [show (t.k != (2 : Int)) = true by simp [ht2], cond_true, if_neg fun h => ht2 h.1]
     exact ⟨_, _, rfl, .inl ⟨rfl, rfl⟩⟩
 · rw [uF h2, cond_false, show (p.k != (1 : Int)) = true by simp [h1], cond_true, qzr h1 h2, qEA h1 h2, qAw _ _ hp, ja]
   cases hs : yV p t with
   | false => exact ⟨_, _, rfl, .inl ⟨rfl, rfl⟩⟩
   | true => exact ⟨_, _, rfl, .inr ⟨rfl, by rw [if_pos rfl]; rfl, by omega, he⟩⟩
theorem qxs {W : Nat} (hW : W ≤ 1000000) {rec : En → List T → List T → Option (En × Bool)} (all : List T) (N : Nat) (hN : N ≤ 1000000) :
 ∀ (ps ts : List T) (i : Nat) (env : En), all.drop i = ps → ps.length = ts.length → (∀ p ∈ ps, ∀ t ∈ ts, ∀ env : En, EnW W env → env.length + (zu p.ar).length ≤ N → p.k = 2 → t.k = 2 → zb7 W env (zu p.ar).length (mtc (zt env) (zu p.ar) (vL p.ar t.ar)) (rec env p.ar t.ar)) → EnW W env → (∀ p ∈ ps, wt p ≤ 1000000) → (∀ t ∈ ts, wt t ≤ W) → env.length + (zu ps).length ≤ N →
  zb7 W env (zu ps).length (mtc (zt env) (zu ps) (vL ps ts)) (qap (fun env_5 ok_6 => some (env_5, ok_6)) rec all ts env true i)
 | [], [], i, env, _, _, _, he, _, _, _ => by
  rw [qap, vL]
  exact ⟨env, true, rfl, .inr ⟨rfl, rfl, by omega, he⟩⟩
 | [], _ :: _, i, env, _, h, _, _, _, _, _ => by cases h
 | _ :: _, [], i, env, _, h, _, _, _, _, _ => by cases h
 | p :: ps, t :: ts, i, env, hd, hl, hr, he, hp, ht, hn => by
  rw [zu, je] at hn
  have hi : i < all.length := by
   rcases Nat.lt_or_ge i all.length with h | h
   exact h
   rw [j9 h] at hd
   cases hd
  rw [jY hi] at hd
  obtain ⟨hd1, hd2⟩ := List.cons.inj hd
  have hg : zi all (i : Int) = some p := by rw [qdQ, jq hi, hd1]
  have hfun : p.k = 2 → (zu p.ar).length = (yh p).length := fun h => by rw [qsN h]
  obtain ⟨env1, ok1, e1, h1⟩ := qCX hW (rec := rec) (p := p) (t := t) (env := env) (fun h2 ht2 => hr p (jd ..) t (jd ..) env he (by have := hfun h2; omega) h2 ht2) he (hp p (jd ..)) (ht t (jd ..)) oa
  rw [qap, cond_true, hg, ja, e1, ja, vL, zu, qC4 fun l hl => qwm p t l hl]
  dsimp only
  rcases h1 with ⟨rfl, hx⟩ | ⟨rfl, hx, hlen, he1⟩
  refine ⟨env1, false, ?_, .inl ⟨rfl, by rw [hx]; rfl⟩⟩
  cases ts with
  | nil => rw [qap]
  | cons t2 ts => rw [qap, cond_false]
  rw [hx, ja]
  obtain ⟨env2, ok2, e2, h2⟩ := qxs hW all N hN ps ts (i + 1) env1 hd2 (by simpa using hl) (fun p hp t ht => hr p (jf _ hp) t (jf _ ht)) he1 (fun p h => hp p (jf _ h)) (fun t h => ht t (jf _ h)) oa
  refine ⟨env2, ok2, e2, h2.imp id fun ⟨a, b, c, d⟩ => ⟨a, b, ?_, d⟩⟩
  rw [je]
  omega
theorem qyS : ∀ (ps ts : List T), ps.length ≠ ts.length → vL ps ts = none
 | [], [], h => absurd rfl h
 | p :: ps, t :: ts, h => by
  rw [vL, qyS ps ts (by simpa using h)]
  cases vT p t <;> rfl
 | [], _ :: _, _ => by rw [vL]
 | _ :: _, [], _ => by rw [vL]
theorem qwR {W : Nat} (hW : W ≤ 1000000) (N : Nat) (hN : N ≤ 1000000) : ∀ (fuel : Nat) (ps ts : List T) (env : En), wtL ps < fuel → wtL ps ≤ 1000000 → wtL ts ≤ W → EnW W env → env.length + (zu ps).length ≤ N →
 zb7 W env (zu ps).length (mtc (zt env) (zu ps) (vL ps ts)) (qd5 fuel env ps ts)
 | 0, _, _, _, h, _, _, _, _ => absurd h (vh _)
 | fuel + 1, ps, ts, env, hf, hp, ht, he, hn => by
  rw [qd5]
  dsimp only
  by_cases h : ps.length = ts.length
  rw [show ((ps.length : Int) != (ts.length : Int)) = false by simp [h], cond_false]
  refine qxs hW ps N hN ps ts 0 env rfl h (fun p hpm t htm env he hn h2 ht2 => ?_) he (fun p hpm => by have := qgo hpm; omega) (fun t htm => by have := qgo htm; omega) hn
  have h1 := qgo hpm
  have h3 := qgo htm
  have h4 := qiI p
  have h5 := qiI t
  exact qwR hW N hN fuel p.ar t.ar env oa oa oa he hn
  rw [show ((ps.length : Int) != (ts.length : Int)) = true by simp; omega, cond_true, qyS ps ts h]
  exact ⟨_, _, rfl, .inl ⟨rfl, rfl⟩⟩
theorem qDF {W : Nat} (hW : W ≤ 1000000) (fuel : Nat) (p a : At) (env : En) (hf : wtL p.ts < fuel) (hp : wtL p.ts ≤ 1000000) (ha : wtL a.ts ≤ W) (he : EnW W env) (hn : env.length + (zu p.ts).length ≤ 1000000) :
 zb7 W env (zu p.ts).length (mtc (zt env) (zu p.ts) (if p.n = a.n then vL p.ts a.ts else none)) (qe1 fuel env p a) := by
 unfold qe1
 by_cases h : p.n = a.n
 · rw [if_pos h, show (!(p.n.toList == a.n.toList)) = false by simp [h], cond_false]
   obtain ⟨env', ok, e, h⟩ := qwR hW 1000000 (jk _) fuel p.ts a.ts env hf hp ha he hn
   exact ⟨env', ok, by rw [e, ja], h⟩
 · rw [if_neg h, show (!(p.n.toList == a.n.toList)) = true by
    simp only [vW, beq_eq_false_iff_ne]
    exact fun e => h (qnK e), cond_true]
   exact ⟨_, _, rfl, .inl ⟨rfl, rfl⟩⟩
/-! ### a function ends with a value of a kind -/
def Yl {α : Type} (x : Option α) (Q : α → Prop) : Prop := ∃ a, x = some a ∧ Q a
theorem Yl.pure {α : Type} {a : α} {Q : α → Prop} (h : Q a) : Yl (some a) Q := ⟨a, rfl, h⟩
theorem Yl.bind {α β : Type} {x : Option α} {R : α → Prop} {f : α → Option β} {Q : β → Prop} (h : Yl x R) (hf : ∀ a, R a → Yl (f a) Q) : Yl (x.bind f) Q := by
 obtain ⟨a, rfl, ha⟩ := h
 exact hf a ha
theorem Yl.cond {α : Type} {b : Bool} {x y : Option α} {Q : α → Prop} (h1 : b = true → Yl x Q) (h2 : b = false → Yl y Q) : Yl (bif b then x else y) Q := by
 cases b with
 | true => exact h1 rfl
 | false => exact h2 rfl
theorem Yl.mono {α : Type} {x : Option α} {Q R : α → Prop} (h : Yl x Q) (k : ∀ a, Q a → R a) : Yl x R := by
 obtain ⟨a, e, ha⟩ := h
 exact ⟨a, e, k a ha⟩
theorem Yl.of {α : Type} {x : Option α} {a : α} {Q : α → Prop} (e : x = some a) (h : Q a) : Yl x Q := ⟨a, e, h⟩
theorem dT {p : Prop} [Decidable p] (h : decide p = true) : p := of_decide_eq_true h
theorem dF {p : Prop} [Decidable p] (h : decide p = false) : ¬ p := of_decide_eq_false h
theorem nT {b : Bool} (h : (!b) = true) : b = false := by simpa using h
theorem nF {b : Bool} (h : (!b) = false) : b = true := by simpa using h
theorem eT {a b : Int} (h : (a == b) = true) : a = b := by simpa using h
theorem eF {a b : Int} (h : (a == b) = false) : a ≠ b := by simpa using h
theorem bT {a b : Int} (h : (a != b) = true) : a ≠ b := by simpa using h
theorem bF {a b : Int} (h : (a != b) = false) : a = b := by simpa using h
theorem sT {a b : ByteArray} (h : (a.toList == b.toList) = true) : a = b := qnK (by simpa using h)
theorem sF {a b : ByteArray} (h : (a.toList == b.toList) = false) : a ≠ b := fun e => by subst e; simp at h
/-! ### looking up -/
theorem quQ (v : Int) : ∀ b : En, qby (some ((T.mk 0 0 ⟨#[]⟩ []), false)) v b = some ((zt b v).getD (T.mk 0 0 ⟨#[]⟩ []), (zt b v).isSome)
 | [] => by rw [qby]; rfl
 | q :: b => by
  rw [qby, zt, quQ v b]
  by_cases h : q.1 = v
  rw [if_pos h, uT h, cond_true]
  rfl
  rw [if_neg h, uF h, cond_false]
theorem qn3 (b : En) (v : Int) : qc4 b v = some ((zt b v).getD (T.mk 0 0 ⟨#[]⟩ []), (zt b v).isSome) := quQ v b
theorem qv2 {b : En} {v : Int} {u : T} (h : zt b v = some u) : (v, u) ∈ b := by
 induction b with
 | nil => cases h
 | cons q b ih =>
  rw [zt] at h
  split at h
  rename_i e
  cases h
  rw [← e]
  exact jd ..
  exact jf _ (ih h)
/-! ### substitutions -/
mutual
def apT (b : En) : T → T
 | .mk k i s ar => if k = 1 then (zt b i).getD (.mk k i s ar) else if k = 2 then .mk k i s (apL b ar) else .mk k i s ar
def apL (b : En) : List T → List T
 | [] => []
 | t :: ts => apT b t :: apL b ts
end
theorem qCV {b : En} {t : T} (h : t.k = 1) : apT b t = (zt b t.i).getD t := by cases t; simp only [T.k] at h; subst h; simp [apT, T.i]
theorem qDB {b : En} {t : T} (h : t.k = 2) : apT b t = .mk t.k t.i t.s (apL b t.ar) := by cases t; simp only [T.k] at h; subst h; simp [apT, T.i, T.s, T.ar, T.k]
theorem qDh {b : En} {t : T} (h1 : t.k ≠ 1) (h2 : t.k ≠ 2) : apT b t = t := by cases t; simp only [T.k] at h1 h2; simp [apT, h1, h2]
theorem qyA (t : T) : T.mk t.k t.i t.s t.ar = t := by cases t; rfl
theorem zbX {rec : En → List T → Option (List T)} {b : En} {t : T} (hr : t.k = 2 → rec b t.ar = some (apL b t.ar)) : qdG rec b t = some (apT b t) := by
 unfold qdG
 rcases zaj t.k with h1 | h2 | ⟨h1, h2⟩
 rw [uT h1, cond_true, qn3, ja, qCV h1]
 cases zt b t.i with
 | none =>
  show some (T.mk t.k t.i t.s t.ar) = some t
  rw [qyA]
 | some u => rfl
 rw [uF (show t.k ≠ 1 by omega), cond_false, uT h2, cond_true, hr h2, ja, qDB h2]
 rw [uF h1, cond_false, uF h2, cond_false, qyA, qDh h1 h2]
theorem qvc {rec : En → List T → Option (List T)} {b : En} : ∀ (l out : List T), (∀ t ∈ l, t.k = 2 → rec b t.ar = some (apL b t.ar)) → out.length + l.length ≤ 10000000000 → qan (fun out_7 => some out_7) rec b l out = some (out ++ apL b l)
 | [], out, _, _ => by rw [qan, apL, js]
 | t :: l, out, hr, hl => by
  rw [jg] at hl
  rw [qan, zbX (hr t (jd ..)), ja, qf9 oa hl, ja, qvc l _ (fun u h => hr u (jf _ h)) (by rw [je, jp]; omega), apL, ji, vz]
theorem qov (b : En) : ∀ (fuel : Nat) (l : List T), wtL l < fuel → wtL l ≤ 10000000000 → qbd fuel b l = some (apL b l)
 | 0, _, h, _ => absurd h (vh _)
 | fuel + 1, l, h, hw => by
  have := qhi l
  rw [qbd]
  dsimp only
  rw [qvc l [] (fun t ht _ => ?_) oe, jo]
  have h1 := qgo ht
  have h3 := qiI t
  exact qov b fuel t.ar oa oa
theorem qB2 (b : En) (fuel : Nat) (t : T) (h : wt t < fuel) (hw : wt t ≤ 10000000000) : qgH fuel b t = some (apT b t) := by
 have := qiI t
 exact zbX fun _ => qov b fuel t.ar oa oa
theorem qq3 (b : En) (fuel : Nat) (g : Gl) (h : wtL g.ts < fuel) (hw : wtL g.ts ≤ 10000000000) : qcw fuel b g = some ⟨g.op, g.n, apL b g.ts⟩ := by
 rw [qcw, qov b fuel g.ts h hw, ja]
theorem qz1 (b : En) (fuel : Nat) (a : At) (h : wtL a.ts < fuel) (hw : wtL a.ts ≤ 10000000000) : qdN fuel b a = some ⟨a.n, apL b a.ts⟩ := by
 rw [qdN, qov b fuel a.ts h hw, ja]
mutual
theorem qDV {W : Nat} (hW : 1 ≤ W) {b : En} (hb : ∀ q ∈ b, wt q.2 ≤ W) : ∀ t : T, wt (apT b t) ≤ wt t * W
 | .mk k i s ar => by
  have hm : wt (.mk k i s ar) * 1 ≤ wt (.mk k i s ar) * W := vA _ hW
  rcases zaj k with h1 | h2 | ⟨h1, h2⟩
  rw [qCV (t := .mk k i s ar) h1]
  cases hu : zt b i with
  | none =>
   show wt ((zt b i).getD _) ≤ _
   rw [hu]
   show wt (.mk k i s ar) ≤ _
   omega
  | some u =>
   show wt ((zt b i).getD _) ≤ _
   rw [hu]
   have := hb _ (qv2 hu)
   have h3 : 1 * W ≤ wt (.mk k i s ar) * W := jM _ (by rw [qiI]; omega)
   show wt u ≤ _
   simp only at this
   omega
  rw [qDB (t := .mk k i s ar) h2]
  have := qsK hW hb ar
  rw [wt, wt, jy]
  show 1 + wtL (apL b ar) ≤ 1 * W + wtL ar * W
  omega
  rw [qDh (t := .mk k i s ar) h1 h2]
  omega
theorem qsK {W : Nat} (hW : 1 ≤ W) {b : En} (hb : ∀ q ∈ b, wt q.2 ≤ W) : ∀ l : List T, wtL (apL b l) ≤ wtL l * W
 | [] => by rw [apL, wtL]; omega
 | t :: l => by
  have h1 := qDV hW hb t
  have h2 := qsK hW hb l
  rw [apL, wtL, wtL, jy]
  omega
end
/-! ### instances -/
mutual
def inT (f : Int → T) : T → T
 | .mk k i s ar => if k = 2 then .mk 2 0 s (inL f ar) else if k = 1 then f i else if k = 0 then .mk 0 i ⟨#[]⟩ [] else .mk k i s ar
def inL (f : Int → T) : List T → List T
 | [] => []
 | t :: ts => inT f t :: inL f ts
end
theorem qDt (f : Int → T) {t : T} (h : t.k = 2) : inT f t = .mk 2 0 t.s (inL f t.ar) := by cases t; simp only [T.k] at h; subst h; rw [inT, if_pos rfl]; rfl
theorem qC8 (f : Int → T) {t : T} (h : t.k = 1) : inT f t = f t.i := by cases t; simp only [T.k] at h; subst h; rw [inT, if_neg oa, if_pos rfl]; rfl
theorem qDw (f : Int → T) {t : T} (h1 : t.k ≠ 1) (h2 : t.k ≠ 2) : inT f t = if t.k = 0 then .mk 0 t.i ⟨#[]⟩ [] else t := by cases t; simp only [T.k] at h1 h2; rw [inT, if_neg h2, if_neg h1]; rfl
def ef (env : En) (fresh : Int) (v : Int) : T := (zt env v).getD (.mk 1 (if (qdE fresh v) = some true then v else wr (fresh + v)) ⟨#[]⟩ [])
theorem qzn (a b : Int) : ∃ r, qdE a b = some r := by
 unfold qdE
 cases (decide (a > 0)) <;> cases (decide (b > 0)) <;> cases (decide (wr (a + b) < 0)) <;> cases (decide (a < 0)) <;> cases (decide (b < 0)) <;> exact ⟨_, rfl⟩
theorem inst1 {rec : En → Int → List T → Option (List T)} {env : En} {fresh : Int} {t : T} (hr : t.k = 2 → rec env fresh t.ar = some (inL (ef env fresh) t.ar)) : qdL rec env fresh t = some (inT (ef env fresh) t) := by
 unfold qdL
 rcases zaj t.k with h1 | h2 | ⟨h1, h2⟩
 rw [uF (show t.k ≠ 2 by omega), cond_false, uT h1, cond_true, qC8 _ h1]
 unfold ef
 rcases qwe env t.i with ⟨hn, e⟩ | ⟨r, q, e, h0, hq, hm, _⟩
 obtain ⟨l, hl⟩ := qzn fresh t.i
 rw [e, ja, decide_eq_false oa, cond_false, hl, ja, hn]
 cases l with
 | true => rfl
 | false => rfl
 rw [e, ja, decide_eq_true oa, cond_true, hq, ja, hm]
 rfl
 rw [uT h2, cond_true, hr h2, ja, qDt _ h2]
 rw [uF h2, cond_false, uF h1, cond_false, qDw _ h1 h2]
 by_cases h0 : t.k = 0
 rw [uT h0, cond_true, if_pos h0]
 rfl
 rw [uF h0, cond_false, if_neg h0]
theorem qxm {rec : En → Int → List T → Option (List T)} {env : En} {fresh : Int} : ∀ (ts out : List T), (∀ t ∈ ts, t.k = 2 → rec env fresh t.ar = some (inL (ef env fresh) t.ar)) → out.length + ts.length ≤ 10000000000 → qas (fun out_7 => some out_7) rec env fresh ts out = some (out ++ inL (ef env fresh) ts)
 | [], out, _, _ => by rw [qas, inL, js]
 | t :: ts, out, hr, hl => by
  rw [jg] at hl
  rw [qas, inst1 (fun h => hr t (jd ..) h), ja, qf9 oa hl, ja,
   qxm ts _ (fun t h => hr t (jf _ h)) (by rw [je, jp]; omega), inL, ji, vz]
theorem qxh (env : En) (fresh : Int) : ∀ (fuel : Nat) (ts : List T), wtL ts < fuel → wtL ts ≤ 10000000000 → qc7 fuel env fresh ts = some (inL (ef env fresh) ts)
 | 0, _, h, _ => absurd h (vh _)
 | fuel + 1, ts, h, hw => by
  have := qhi ts
  rw [qc7]
  dsimp only
  rw [qxm ts [] (fun t ht h2 => ?_) oe, jo]
  have h1 := qgo ht
  have h3 := qiI t
  exact qxh env fresh fuel t.ar oa oa
theorem qwE (env : En) (fresh : Int) (fuel : Nat) (g : Gl) (h : wtL g.ts < fuel) (hw : wtL g.ts ≤ 10000000000) : qcF fuel env fresh g = some ⟨g.op, g.n, inL (ef env fresh) g.ts⟩ := by
 rw [qcF, qxh env fresh fuel g.ts h hw, ja]
mutual
theorem qEY {W : Nat} (hW : 1 ≤ W) {f : Int → T} (hf : ∀ v, wt (f v) ≤ W) : ∀ t : T, wt (inT f t) ≤ wt t * W
 | .mk k i s ar => by
  have hm : wt (.mk k i s ar) * 1 ≤ wt (.mk k i s ar) * W := vA _ hW
  have h3 : 1 * W ≤ wt (.mk k i s ar) * W := jM _ (by rw [qiI]; omega)
  rcases zaj k with h1 | h2 | ⟨h1, h2⟩
  rw [qC8 (t := .mk k i s ar) _ h1]
  have := hf (T.mk k i s ar).i
  omega
  rw [qDt (t := .mk k i s ar) _ h2]
  have := qwS hW hf ar
  rw [wt, wt, jy]
  show 1 + wtL (inL f ar) ≤ 1 * W + wtL ar * W
  omega
  rw [qDw (t := .mk k i s ar) _ h1 h2]
  split
  rw [wt, wtL]
  omega
  omega
theorem qwS {W : Nat} (hW : 1 ≤ W) {f : Int → T} (hf : ∀ v, wt (f v) ≤ W) : ∀ l : List T, wtL (inL f l) ≤ wtL l * W
 | [] => by rw [inL, wtL]; omega
 | t :: l => by
  have h1 := qEY hW hf t
  have h2 := qwS hW hf l
  rw [inL, wtL, wtL, jy]
  omega
end
theorem qEn {W : Nat} (hW : 1 ≤ W) {env : En} (he : EnW W env) (fresh v : Int) : wt (ef env fresh v) ≤ W := by
 unfold ef
 cases h : zt env v with
 | none =>
  show wt (T.mk 1 _ _ []) ≤ W
  rw [wt, wtL]
  omega
 | some u => exact he _ (qv2 h)
/-! ### sizes -/
mutual
def szT (f : Int → Nat) : T → Nat
 | .mk k i _ ar => if k = 1 then f i else if k = 2 then 1 + szL f ar else 1
def szL (f : Int → Nat) : List T → Nat
 | [] => 0
 | t :: ts => szT f t + szL f ts
end
theorem qvz (f : Int → Nat) {t : T} (h : t.k = 1) : szT f t = f t.i := by cases t; simp only [T.k] at h; subst h; simp [szT, T.i]
theorem qvM (f : Int → Nat) {t : T} (h : t.k = 2) : szT f t = 1 + szL f t.ar := by cases t; simp only [T.k] at h; subst h; simp [szT, T.ar]
theorem qvK (f : Int → Nat) {t : T} (h1 : t.k ≠ 1) (h2 : t.k ≠ 2) : szT f t = 1 := by cases t; simp only [T.k] at h1 h2; simp [szT, h1, h2]
theorem qn5 {t : T} (h : t.k = 2) : zp t = 1 + zq t.ar := by rw [qkQ, T.used, if_pos h]
theorem qjL {t : T} (h : t.k ≠ 2) : zp t = 1 := by rw [qkQ, T.used, if_neg h, zq]
mutual
theorem qzC (f : Int → T) : ∀ t : T, zp (inT f t) = szT (fun v => zp (f v)) t
 | .mk k i s ar => by
  rcases zaj k with h1 | h2 | ⟨h1, h2⟩
  rw [qC8 (t := .mk k i s ar) _ h1, qvz (t := .mk k i s ar) _ h1]
  rw [qDt (t := .mk k i s ar) _ h2, qvM (t := .mk k i s ar) _ h2, qn5 rfl]
  show 1 + zq (inL f ar) = 1 + szL (fun v => zp (f v)) ar
  rw [qxD f ar]
  rw [qDw (t := .mk k i s ar) _ h1 h2, qvK (t := .mk k i s ar) _ h1 h2]
  split
  exact qjL (by simp [T.k])
  exact qjL h2
theorem qxD (f : Int → T) : ∀ l : List T, zq (inL f l) = szL (fun v => zp (f v)) l
 | [] => by rw [inL, zq, szL]
 | t :: l => by rw [inL, zq, szL, qzC f t, qxD f l]
end
mutual
theorem qAO (b : En) : ∀ t : T, zp (apT b t) = szT (fun v => ((zt b v).map zp).getD 1) t
 | .mk k i s ar => by
  rcases zaj k with h1 | h2 | ⟨h1, h2⟩
  rw [qCV (t := .mk k i s ar) h1, qvz (t := .mk k i s ar) _ h1]
  show zp ((zt b i).getD _) = ((zt b i).map zp).getD 1
  cases zt b i with
  | none => exact qjL (t := T.mk k i s ar) (show k ≠ 2 by omega)
  | some u => rfl
  rw [qDB (t := .mk k i s ar) h2, qvM (t := .mk k i s ar) _ h2]
  show zp (T.mk k i s (apL b ar)) = _
  rw [qn5 (t := T.mk k i s (apL b ar)) h2]
  show 1 + zq (apL b ar) = 1 + szL (fun v => ((zt b v).map zp).getD 1) ar
  rw [qwZ b ar]
  rw [qDh (t := .mk k i s ar) h1 h2, qvK (t := .mk k i s ar) _ h1 h2, qjL (t := .mk k i s ar) h2]
theorem qwZ (b : En) : ∀ l : List T, zq (apL b l) = szL (fun v => ((zt b v).map zp).getD 1) l
 | [] => by rw [apL, zq, szL]
 | t :: l => by rw [apL, zq, szL, qAO b t, qwZ b l]
end
mutual
theorem qsU {f g : Int → Nat} : ∀ t : T, (∀ v ∈ yh t, f v = g v) → szT f t = szT g t
 | .mk k i s ar, h => by
  rcases zaj k with h1 | h2 | ⟨h1, h2⟩
  rw [qvz (t := .mk k i s ar) _ h1, qvz (t := .mk k i s ar) _ h1]
  exact h i (by rw [qst (t := .mk k i s ar) h1]; exact jn.2 rfl)
  rw [qvM (t := .mk k i s ar) _ h2, qvM (t := .mk k i s ar) _ h2]
  show 1 + szL f ar = 1 + szL g ar
  rw [quC ar fun v hv => h v (by rw [qsN (t := .mk k i s ar) h2]; exact hv)]
  rw [qvK (t := .mk k i s ar) _ h1 h2, qvK (t := .mk k i s ar) _ h1 h2]
theorem quC {f g : Int → Nat} : ∀ l : List T, (∀ v ∈ zu l, f v = g v) → szL f l = szL g l
 | [], _ => by rw [szL, szL]
 | t :: l, h => by rw [szL, szL, qsU t fun v hv => h v (by rw [zu]; exact jr _ hv), quC l fun v hv => h v (by rw [zu]; exact jz _ hv)]
end
mutual
theorem qCd : ∀ t : T, szT (fun _ => 1) t = zp t
 | .mk k i s ar => by
  rcases zaj k with h1 | h2 | ⟨h1, h2⟩
  rw [qvz (t := .mk k i s ar) _ h1, qjL (t := .mk k i s ar) (show k ≠ 2 by omega)]
  rw [qvM (t := .mk k i s ar) _ h2, qn5 (t := .mk k i s ar) h2]
  show 1 + szL _ ar = 1 + zq ar
  rw [qzd ar]
  rw [qvK (t := .mk k i s ar) _ h1 h2, qjL (t := .mk k i s ar) h2]
theorem qzd : ∀ l : List T, szL (fun _ => 1) l = zq l
 | [] => by rw [szL, zq]
 | t :: l => by rw [szL, zq, qCd t, qzd l]
end
theorem qpL (t : T) : 1 ≤ zp t := by rw [qkQ]; omega
mutual
theorem qo0 : ∀ t : T, zp (clean t) = zp t
 | .mk k i s ar => by
  have hk := qDf (.mk k i s ar)
  by_cases h2 : k = 2
  rw [qn5 (t := clean _) (by rw [hk]; exact h2), qn5 (t := .mk k i s ar) h2, qwH, if_neg (show ¬ ((T.mk k i s ar).k = 1 ∨ (T.mk k i s ar).k = 0) from (show ¬ (k = 1 ∨ k = 0) by omega)), if_pos (show (T.mk k i s ar).k = 2 from h2)]
  show 1 + zq (yq ar) = 1 + zq ar
  rw [qq8 ar]
  rw [qjL (by rw [hk]; exact h2), qjL (t := .mk k i s ar) h2]
theorem qq8 : ∀ l : List T, zq (yq l) = zq l
 | [] => by rw [yq]
 | t :: l => by rw [yq, zq, zq, qo0 t, qq8 l]
end
theorem qxU {a b : T} (h : yV a b = true) : clean a = clean b := (quT a b).1 (by unfold yV at h; simpa using h)
theorem quZ {a b : T} (h : yV a b = true) : zp a = zp b := by rw [← qo0 a, qxU h, qo0]
mutual
theorem qz2 : ∀ t : T, zM t = true → wt t = zp t
 | .mk k i s ar, h => by
  by_cases h2 : k = 2
  subst h2
  rw [qnn rfl, jj] at h
  rw [qn5 rfl, wt]
  show 1 + wtL ar = 1 + zq ar
  rw [qtv ar h.2]
  have h0 : ar.length = 0 := by
   by_cases e : k = 0
   subst e
   rw [qnY rfl] at h
   exact (of_decide_eq_true h).2.2.2
   by_cases e1 : k = 1
   subst e1
   rw [qqK rfl] at h
   exact (of_decide_eq_true h).2.2.2
   rw [qoP (t := .mk k i s ar) e e1 h2] at h
   cases h
  rw [qjL (t := .mk k i s ar) h2, jA h0, wt, wtL]
theorem qtv : ∀ l : List T, zL l = true → wtL l = zq l
 | [], _ => by rw [wtL, zq]
 | t :: l, h => by
  rw [zL, jj] at h
  rw [wtL, zq, qz2 t h.1, qtv l h.2]
end
theorem qqo {l : List T} (h : ye l = true) : zL l = true ∧ wtL l ≤ 200 := by
 obtain ⟨h1, h2, _⟩ := (qsQ l).1 h
 exact ⟨h1, by rw [qtv l h1]; omega⟩
theorem qhB {t : T} (h : zN t = true) : zM t = true ∧ wt t ≤ 200 := by
 obtain ⟨h1, h2, _⟩ := (qyf t).1 h
 exact ⟨h1, by rw [qz2 t h1]; omega⟩
theorem qgj {a : At} (h : zA a = true) : zL a.ts = true ∧ wtL a.ts ≤ 200 ∧ a.ts.length ≤ 6 := by
 unfold zA at h
 simp only [jj, decide_eq_true_eq] at h
 obtain ⟨h1, h2⟩ := qqo h.2
 exact ⟨h1, h2, h.1.2⟩
theorem qhc {g : Gl} (h : zy g = true) : zL g.ts = true ∧ wtL g.ts ≤ 200 := by
 unfold zy at h
 split at h
 have := qgj h
 exact ⟨this.1, this.2.1⟩
 simp only [jj] at h
 exact qqo h.2
/-! ### what fits has the size of the instance -/
theorem qpQ : ∀ (l : List (Int × T)) (f g : Int → Option T), rn f l = some g → (∀ v u, f v = some u → g v = some u) ∧ ∀ q ∈ l, ∃ u, g q.1 = some u ∧ zp u = zp q.2
 | [], f, g, h => by
  rw [rn] at h
  cases h
  exact ⟨fun _ _ h => h, fun q hq => by cases hq⟩
 | (v, u) :: l, f, g, h => by
  cases hf : f v with
  | none =>
   rw [qqL hf] at h
   obtain ⟨h1, h2⟩ := qpQ l _ g h
   have hv : g v = some u := h1 v u (by unfold upd; rw [if_pos rfl])
   refine ⟨fun x w hx => h1 x w ?_, fun q hq => ?_⟩
   unfold upd
   rw [if_neg (fun e => by rw [e, hf] at hx; cases hx)]
   exact hx
   rcases jh.1 hq with rfl | hq
   exact ⟨u, hv, rfl⟩
   exact h2 q hq
  | some w =>
   rw [qp2 hf] at h
   split at h
   rename_i hs
   obtain ⟨h1, h2⟩ := qpQ l _ g h
   refine ⟨h1, fun q hq => ?_⟩
   rcases jh.1 hq with rfl | hq
   exact ⟨w, h1 v w hf, quZ hs⟩
   exact h2 q hq
   cases h
def gz (g : Int → Option T) (v : Int) : Nat := ((g v).map zp).getD 1
mutual
theorem qzj (g : Int → Option T) : ∀ (p t : T) (l : List T), vT p t = some l → (∀ q ∈ (yh p).zip l, ∃ u, g q.1 = some u ∧ zp u = zp q.2) → zp t = szT (gz g) p
 | .mk k i s ar, t, l, h, hq => by
  rcases zaj k with h1 | h2 | ⟨h1, h2⟩
  rw [qzX (p := .mk k i s ar) h1] at h
  cases h
  rw [qst (t := .mk k i s ar) h1] at hq
  obtain ⟨u, hu, hs⟩ := hq ((T.mk k i s ar).i, t) og
  rw [qvz (t := .mk k i s ar) _ h1, gz, hu]
  exact hs.symm
  rw [qAb (p := .mk k i s ar) h2] at h
  split at h
  rename_i ht
  rw [qvM (t := .mk k i s ar) _ h2, qn5 ht.1]
  rw [qsN (t := .mk k i s ar) h2] at hq
  exact congrArg (1 + ·) (qvS g ar t.ar l h hq)
  cases h
  rw [qzr (p := .mk k i s ar) h1 h2] at h
  split at h
  rename_i hs
  rw [qvK (t := .mk k i s ar) _ h1 h2, ← quZ hs, qjL (t := .mk k i s ar) h2]
  cases h
theorem qvS (g : Int → Option T) : ∀ (ps ts l : List T), vL ps ts = some l → (∀ q ∈ (zu ps).zip l, ∃ u, g q.1 = some u ∧ zp u = zp q.2) → zq ts = szL (gz g) ps
 | [], [], l, h, hq => by rw [zq, szL]
 | p :: ps, t :: ts, l, h, hq => by
  rw [vL] at h
  cases ha : vT p t with
  | none =>
   rw [ha] at h
   cases h
  | some a =>
   cases hb : vL ps ts with
   | none =>
    rw [ha, hb] at h
    cases h
   | some b =>
    rw [ha, hb] at h
    obtain rfl := Option.some.inj h
    have hl := qwm p t a ha
    rw [zu, List.zip_append hl.symm] at hq
    rw [zq, szL, qzj g p t a ha fun q h => hq q (jr _ h), qvS g ps ts b hb fun q h => hq q (jz _ h)]
 | [], _ :: _, l, h, _ => by
  rw [vL] at h
  cases h
 | _ :: _, [], l, h, _ => by
  rw [vL] at h
  cases h
end
theorem qAZ {f g : Int → Option T} {ps ts : List T} (h : mtc f (zu ps) (vL ps ts) = some g) : (∀ v u, f v = some u → g v = some u) ∧ (∀ v ∈ zu ps, (g v).isSome = true) ∧ zq ts = szL (gz g) ps := by
 unfold mtc at h
 cases hv : vL ps ts with
 | none =>
  rw [hv] at h
  cases h
 | some l =>
  rw [hv, ja] at h
  obtain ⟨h1, h2⟩ := qpQ _ f g h
  refine ⟨h1, fun v hvm => ?_, qvS g ps ts l hv h2⟩
  obtain ⟨i, hi, rfl⟩ := List.getElem_of_mem hvm
  have hl := qyO ps ts l hv
  obtain ⟨u, hu, _⟩ := h2 ((zu ps)[i], l[i]'(by omega)) (by
   rw [List.mem_iff_getElem]
   exact ⟨i, by rw [List.length_zip]; omega, by rw [List.getElem_zip]⟩)
  rw [hu]
  rfl
/-! ### terms under values of the variables -/
mutual
def thT (θ : Int → T) : T → T
 | .mk k i s ar => if k = 1 then θ i else .mk k i s (thL θ ar)
def thL (θ : Int → T) : List T → List T
 | [] => []
 | t :: ts => thT θ t :: thL θ ts
end
theorem qrz (θ : Int → T) {t : T} (h : t.k = 1) : thT θ t = θ t.i := by cases t; simp only [T.k] at h; subst h; simp [thT, T.i]
theorem qs9 (θ : Int → T) {t : T} (h : t.k ≠ 1) : thT θ t = .mk t.k t.i t.s (thL θ t.ar) := by cases t; simp only [T.k] at h; simp [thT, h, T.i, T.k, T.s, T.ar]
theorem qlc (θ : Int → T) : ∀ l : List T, thL θ l = l.map (thT θ)
 | [] => rfl
 | t :: l => by rw [thL, jm, qlc θ l]
/-! ### a node stands for one term -/
theorem qB6 {a b : List T} (hl : a.length = b.length) (h : ∀ (n : Nat) x y, zi a (n : Int) = some x → zi b (n : Int) = some y → x = y) : a = b := by
 refine List.ext_getElem hl fun n h1 h2 => ?_
 exact h n _ _ (by rw [qdQ]; exact jq h1) (by rw [qdQ]; exact jq h2)
theorem Rp.one {g : List Nd} {i : Int} {t : T} (h : Rp g i t) : ∀ u, Rp g i u → t = u := by
 induction h with
 | mk i q t h1 h2 h3 h4 h5 h6 ih =>
  intro u hu
  obtain ⟨_, q', _, k1, k2, k3, k4, k5, k6⟩ := hu
  obtain rfl := Option.some.inj (h1.symm.trans k1)
  have e : t.ar = u.ar := qB6 oa fun n x y hx hy => by
   have hn := (qkT hx).2.1
   obtain ⟨a, ha, _⟩ := yo (l := q.fe) (i := (n : Int)) oa oa
   exact ih n a x ha hx y (k6 n a y ha hy)
  rw [← qyA t, ← qyA u, ← h2, ← h3, ← h4, e, ← k2, ← k3, ← k4]
theorem Rp.node {g : List Nd} {i : Int} {t : T} (h : Rp g i t) : ∃ q, zi g i = some q ∧ q.fa = t.k ∧ q.fj = t.i ∧ q.fF = t.s ∧ q.fe.length = t.ar.length ∧ ∀ n a u, zi q.fe n = some a → zi t.ar n = some u → Rp g a u := by
 obtain ⟨_, q, _, h1, h2, h3, h4, h5, h6⟩ := h
 exact ⟨q, h1, h2, h3, h4, h5, h6⟩
def Ev (θ : Int → T) (g : List Nd) (i j : Int) : Prop := i = j ∨ ∃ t u, Rp g i t ∧ Rp g j u ∧ thT θ t = thT θ u
theorem Ev.more {θ : Int → T} {g : List Nd} (e : List Nd) {i j : Int} (h : Ev θ g i j) : Ev θ (g ++ e) i j := by
 rcases h with h | ⟨t, u, h1, h2, h3⟩
 exact .inl h
 exact .inr ⟨t, u, h1.more e, h2.more e, h3⟩
theorem Ev.val {θ : Int → T} {g : List Nd} {i j : Int} (h : Ev θ g i j) {t u : T} (ht : Rp g i t) (hu : Rp g j u) : thT θ t = thT θ u := by
 rcases h with rfl | ⟨t', u', h1, h2, h3⟩
 rw [ht.one u hu]
 rw [ht.one t' h1, hu.one u' h2, h3]
theorem Ev.resp (θ : Int → T) (g : List Nd) : Resp g (Ev θ g) := by
 refine ⟨fun i => .inl rfl, fun i j h => ?_, fun i j k h1 h2 => ?_, fun i j p q h hp hq hpk hqk => ?_⟩
 rcases h with h | ⟨t, u, h1, h2, h3⟩
 exact .inl h.symm
 exact .inr ⟨u, t, h2, h1, h3.symm⟩
 rcases h1 with rfl | ⟨t, u, h3, h4, h5⟩
 exact h2
 rcases h2 with rfl | ⟨t', u', h6, h7, h8⟩
 exact .inr ⟨t, u, h3, h4, h5⟩
 refine .inr ⟨t, u', h3, h7, ?_⟩
 rw [h5, h4.one t' h6, h8]
 rcases h with rfl | ⟨t, u, h1, h2, h3⟩
 obtain rfl := Option.some.inj (hp.symm.trans hq)
 exact ⟨rfl, rfl, rfl, rfl, fun n a b ha hb => .inl (Option.some.inj (ha.symm.trans hb))⟩
 obtain ⟨p', e1, k1, k2, k3, k4, k5⟩ := h1.node
 obtain ⟨q', e2, l1, l2, l3, l4, l5⟩ := h2.node
 obtain rfl := Option.some.inj (hp.symm.trans e1)
 obtain rfl := Option.some.inj (hq.symm.trans e2)
 rw [qs9 θ (show t.k ≠ 1 by rw [← k1]; exact hpk), qs9 θ (show u.k ≠ 1 by rw [← l1]; exact hqk)] at h3
 injection h3 with m1 m2 m3 m4
 rw [qlc, qlc] at m4
 have hlen : t.ar.length = u.ar.length := by simpa using congrArg List.length m4
 refine ⟨by rw [k1, l1, m1], by rw [k2, l2, m2], by rw [k3, l3, m3], by omega, fun n a b ha hb => ?_⟩
 obtain ⟨n0, n1, _⟩ := qkT ha
 obtain ⟨x, hx, _⟩ := yo (l := t.ar) (i := n) n0 oa
 obtain ⟨y, hy, _⟩ := yo (l := u.ar) (i := n) n0 oa
 refine .inr ⟨x, y, k5 n a x ha hx, l5 n b y hb hy, ?_⟩
 have e1 := qyr (thT θ) hx
 rw [m4, qyr (thT θ) hy] at e1
 exact (Option.some.inj e1).symm
theorem qwN {θ : Int → T} {M : Nat} {g g1 : List Nd} {c c1 : List Int} {n : Nat} (hs : StG g c) (hF : zbh c (Ev θ g)) (h : zah M g c n g1 c1) : zbh c1 (Ev θ g1) := by
 obtain ⟨_, _, e, rfl, _, rfl⟩ := h
 have hl := hs.len
 have spl : ∀ i v, zi (c ++ (List.range' g.length e.length).map fun (x : Nat) => (x : Int)) i = some v → (zi c i = some v ∧ v < g.length) ∨ ((g.length : Int) ≤ i ∧ v = i) := fun i v h => by
  obtain ⟨h0, h1⟩ := qbV h
  by_cases hi : i.toNat < c.length
  rw [jT hi] at h1
  refine .inl ⟨?_, (hs.cls v (List.mem_of_getElem? h1)).2⟩
  unfold zi
  rw [if_pos h0, h1]
  rw [vp oa] at h1
  refine .inr ⟨by omega, ?_⟩
  obtain ⟨hb, h1⟩ := jt.1 h1
  rw [List.getElem_map, List.getElem_range'] at h1
  omega
 intro i j v hi hj
 rcases spl i v hi with ⟨h1, h2⟩ | ⟨h1, h2⟩
 rcases spl j v hj with ⟨h3, h4⟩ | ⟨h3, h4⟩
 exact (hF i j v h1 h3).more e
 omega
 rcases spl j v hj with ⟨h3, h4⟩ | ⟨h3, h4⟩
 omega
 exact .inl (h2.symm.trans h4)
/-! ### the term of a class has the value of its nodes -/
theorem qmk (c : List Int) (cl : Int) : ∀ (l : List Nd) (i : Nat) (r : Int), qF (some (-1)) c cl l i = some r → r < 0 → ∀ (n : Nat) q, l[n]? = some q → zi c ((i + n : Nat) : Int) = some cl → q.fa = 1
 | [], i, r, h, _, n, q, hq, _ => by simp at hq
 | p :: l, i, r, h, hr, n, q, hq, hc => by
  rw [qF] at h
  cases hv : zi c (i : Int) with
  | none =>
   rw [hv] at h
   cases h
  | some v =>
   rw [hv, ja] at h
   by_cases h1 : v = cl
   rw [uT h1, cond_true] at h
   by_cases h2 : p.fa = 1
   rw [show (p.fa != 1) = false by simp [h2], cond_false] at h
   cases n with
   | zero =>
    rw [vJ] at hq
    cases hq
    exact h2
   | succ n => exact qmk c cl l (i + 1) r h hr n q (by simpa using hq) (by rw [show i + 1 + n = i + (n + 1) by omega]; exact hc)
   rw [show (p.fa != 1) = true by simp [h2], cond_true] at h
   cases h
   omega
   rw [uF h1, cond_false] at h
   cases n with
   | zero =>
    rw [j4, hv] at hc
    exact absurd (Option.some.inj hc) h1
   | succ n => exact qmk c cl l (i + 1) r h hr n q (by simpa using hq) (by rw [show i + 1 + n = i + (n + 1) by omega]; exact hc)
theorem qoR {g : List Nd} {c : List Int} {cl r : Int} (h : qC cl g c = some r) (hr : r < 0) {i : Int} {q : Nd} (hq : zi g i = some q) (hc : zi c i = some cl) : q.fa = 1 := by
 obtain ⟨h0, h1⟩ := qbV hq
 exact qmk c cl g 0 r h hr i.toNat q h1 (by rw [ju, Int.toNat_of_nonneg h0]; exact hc)
theorem quq (c : List Int) (cl : Int) : ∀ (l : List Nd) (v : Int) (i : Nat) (x : Int), qp (fun v => some v) c cl l v i = some x → (x = v ∧ (v < 0 → ∀ (n : Nat) q, l[n]? = some q → zi c ((i + n : Nat) : Int) = some cl → q.fa = 1 → False)) ∨ ∃ (n : Nat) (q : Nd), l[n]? = some q ∧ zi c ((i + n : Nat) : Int) = some cl ∧ q.fa = 1 ∧ q.fj = x
 | [], v, i, x, h => by
  rw [qp] at h
  exact .inl ⟨(Option.some.inj h).symm, fun _ n q hq => by simp at hq⟩
 | p :: l, v, i, x, h => by
  rw [qp] at h
  cases hv : zi c (i : Int) with
  | none =>
   rw [hv] at h
   cases h
  | some w =>
   rw [hv, ja] at h
   have go : ∀ v', qp (fun v => some v) c cl l v' (i + 1) = some x → (x = v' ∧ (v' < 0 → ∀ (n : Nat) q, l[n]? = some q → zi c ((i + 1 + n : Nat) : Int) = some cl → q.fa = 1 → False)) ∨ ∃ (n : Nat) (q : Nd), (p :: l)[n]? = some q ∧ zi c ((i + n : Nat) : Int) = some cl ∧ q.fa = 1 ∧ q.fj = x := fun v' h' => by
    rcases quq c cl l v' (i + 1) x h' with h | ⟨n, q, h1, h2, h3⟩
    exact .inl h
    exact .inr ⟨n + 1, q, by simpa using h1, by rw [show i + (n + 1) = i + 1 + n by omega]; exact h2, h3⟩
   have here : w = cl → p.fa = 1 → p.fj = x → ∃ (n : Nat) (q : Nd), (p :: l)[n]? = some q ∧ zi c ((i + n : Nat) : Int) = some cl ∧ q.fa = 1 ∧ q.fj = x := fun h1 h2 h3 => ⟨0, p, rfl, by rw [j4, hv, h1], h2, h3⟩
   have skip : ¬ (w = cl ∧ p.fa = 1) → qp (fun v => some v) c cl l v (i + 1) = some x → (x = v ∧ (v < 0 → ∀ (n : Nat) q, (p :: l)[n]? = some q → zi c ((i + n : Nat) : Int) = some cl → q.fa = 1 → False)) ∨ ∃ (n : Nat) (q : Nd), (p :: l)[n]? = some q ∧ zi c ((i + n : Nat) : Int) = some cl ∧ q.fa = 1 ∧ q.fj = x := fun hn h' => by
    rcases go v h' with ⟨h1, h2⟩ | h
    refine .inl ⟨h1, fun hv0 n q hq hc hk => ?_⟩
    cases n with
    | zero =>
     rw [vJ] at hq
     cases hq
     rw [j4, hv] at hc
     exact hn ⟨Option.some.inj hc, hk⟩
    | succ n => exact h2 hv0 n q (by simpa using hq) (by rw [show i + 1 + n = i + (n + 1) by omega]; exact hc) hk
    exact .inr h
   by_cases h1 : w = cl
   rw [uT h1, cond_true] at h
   by_cases h2 : p.fa = 1
   rw [uT h2, cond_true] at h
   have new : qp (fun v => some v) c cl l p.fj (i + 1) = some x → ∃ (n : Nat) (q : Nd), (p :: l)[n]? = some q ∧ zi c ((i + n : Nat) : Int) = some cl ∧ q.fa = 1 ∧ q.fj = x := fun h' => by
    rcases go _ h' with ⟨h3, _⟩ | h
    exact here h1 h2 h3.symm
    exact h
   by_cases h3 : v < 0
   rw [decide_eq_true h3, cond_true] at h
   exact .inr (new h)
   rw [decide_eq_false h3, cond_false] at h
   by_cases h4 : p.fj < v
   rw [decide_eq_true h4, cond_true] at h
   exact .inr (new h)
   rw [decide_eq_false h4, cond_false] at h
   rcases go _ h with ⟨h5, _⟩ | h
   exact .inl ⟨h5, fun h6 => absurd h6 h3⟩
   exact .inr h
   rw [uF h2, cond_false] at h
   exact skip (fun h => h2 h.2) h
   rw [uF h1, cond_false] at h
   exact skip (fun h => h1 h.1) h
theorem qzI {g : List Nd} {c : List Int} {cl x : Int} (h : qbz cl g c = some x) {i : Int} {q : Nd} (hq : zi g i = some q) (hc : zi c i = some cl) (hk : q.fa = 1) : ∃ j p, zi g j = some p ∧ zi c j = some cl ∧ p.fa = 1 ∧ p.fj = x := by
 obtain ⟨h0, h1⟩ := qbV hq
 rcases quq c cl g (-1) 0 x h with ⟨_, h2⟩ | ⟨n, p, h3, h4, h5⟩
 exact (h2 oa i.toNat q h1 (by rw [ju, Int.toNat_of_nonneg h0]; exact hc) hk).elim
 exact ⟨(n : Int), p, by rw [qdQ]; exact h3, by rw [ju] at h4; exact h4, h5⟩
theorem qnR {α β : Type} {x : Option α} {f : α → Option β} {b : β} (h : x.bind f = some b) : ∃ a, x = some a ∧ f a = some b := jN.1 h
theorem qwo {θ : Int → T} {rec : Int → List Nd → List Int → Option T} {g : List Nd} {c : List Int} {q : Nd} {u : T} (hlen : q.fe.length = u.ar.length) (hkl : q.fe.length ≤ 1000000000) (hr : ∀ (n : Nat) a w v t, zi q.fe n = some a → zi u.ar n = some w → zi c a = some v → rec v g c = some t → thT θ t = thT θ w) (a b : Int) (s : ByteArray) :
 ∀ (n i : Nat) (l : List T) (t : T), i ≤ q.fe.length → qt (fun t_14 t_15 t_16 t_17 => some (T.mk t_14 t_15 t_16 t_17)) rec g c q n (i : Int) a b s l = some t → thL θ l = thL θ (u.ar.take i) → ∃ l', t = .mk a b s l' ∧ thL θ l' = thL θ u.ar
 | 0, i, l, t, _, h, _ => by
  rw [qt] at h
  cases h
 | n + 1, i, l, t, hi, h, hl => by
  rw [qt] at h
  by_cases h1 : (i : Int) < (q.fe.length : Int)
  rw [decide_eq_true h1, cond_true] at h
  obtain ⟨x, hx, h⟩ := qnR h
  obtain ⟨v, hv, h⟩ := qnR h
  obtain ⟨y, hy, h⟩ := qnR h
  obtain ⟨l2, hl2, h⟩ := qnR h
  obtain ⟨w, hw, _⟩ := yo (l := u.ar) (i := (i : Int)) oa oa
  have e := hr i x w v y hx hw hv hy
  have hl2' : l2 = l ++ [y] := by
   unfold zF at hl2
   split at hl2
   exact (Option.some.inj hl2).symm
   cases hl2
  subst hl2'
  have hi' : wr ((i : Int) + 1) = ((i + 1 : Nat) : Int) := by
   rw [qgA oa]
   omega
  rw [hi'] at h
  refine qwo hlen hkl hr a b s n (i + 1) (l ++ [y]) t oa h ?_
  rw [qdQ] at hw
  rw [qhI hw, qlc, qlc, jK, jK, Jg, Jg, e, ← qlc, ← qlc, hl]
  rw [decide_eq_false h1, cond_false] at h
  refine ⟨l, (Option.some.inj h).symm, ?_⟩
  rw [hl, jZ oa]
theorem qwL {θ : Int → T} {M : Nat} (hM : M ≤ 1000000000) {g : List Nd} {c : List Int} (hs : StG g c) (hk : Kd M g) (hA : zaN g) (hF : zbh c (Ev θ g)) : ∀ (fuel : Nat) (v : Int) (t : T), qz fuel v g c = some t → ∀ i u, zi c i = some v → Rp g i u → thT θ t = thT θ u
 | 0, v, t, h, _, _, _, _ => by
  rw [qz] at h
  cases h
 | fuel + 1, v, t, h, i, u, hi, hu => by
  rw [qz] at h
  dsimp only at h
  obtain ⟨r, hr, h⟩ := qnR h
  obtain ⟨q, hq, hqk, hqi, _⟩ := hu.node
  obtain ⟨r', hr', hrq⟩ := qjs hs v
  obtain rfl := Option.some.inj (hr.symm.trans hr')
  by_cases h0 : r < 0
  rw [decide_eq_true h0, cond_true] at h
  obtain ⟨x, hx, h⟩ := qnR h
  have hk1 := qoR hr h0 hq hi
  obtain ⟨j, p, hp, hj, hpk, hpx⟩ := qzI hx hq hi hk1
  obtain ⟨w, hw⟩ := hA j p hp
  obtain ⟨p', hp', hwk, hwi, _⟩ := hw.node
  obtain rfl := Option.some.inj (hp.symm.trans hp')
  have e := (hF i j v hi hj).val hu hw
  obtain rfl := Option.some.inj h
  rw [e, qrz θ (show w.k = 1 by rw [← hwk, hpk]), qrz θ (by rfl), ← hwi, hpx]
  rfl
  rw [decide_eq_false h0, cond_false] at h
  rcases hrq with rfl | ⟨p, hp, hpc, hpk⟩
  omega
  obtain ⟨p', hp', h⟩ := qnR h
  obtain rfl := Option.some.inj (hp.symm.trans hp')
  obtain ⟨w, hw⟩ := hA r p hp
  obtain ⟨p', hp', hwk, hwi, hws, hwl, hwr⟩ := hw.node
  obtain rfl := Option.some.inj (hp.symm.trans hp')
  have hkl := hk p (qfM hp)
  obtain ⟨l', rfl, hl'⟩ := qwo (θ := θ) (u := w) hwl oa (fun n a w' v' t' ha hw' hv' ht' => qwL hM hs hk hA hF fuel v' t' ht' a w' hv' (hwr n a w' ha hw')) p.fa p.fj p.fF fuel 0 [] t (jc _) h (by rw [vG])
  rw [(hF i r v hi hpc).val hu hw, qs9 θ (show (T.mk p.fa p.fj p.fF l').k ≠ 1 from hpk), qs9 θ (show w.k ≠ 1 by rw [← hwk]; exact hpk)]
  show T.mk p.fa p.fj p.fF (thL θ l') = _
  rw [hl', hwk, hwi, hws]
/-! ### the solved form -/
def Ar (P : Int × T → Prop) (r : List (Int × T) × Int) : Prop := (∀ p ∈ r.1, P p) ∧ r.1.length ≤ 1000000000
theorem Ar.nil {P : Int × T → Prop} (e : Int) : Ar P ([], e) := ⟨fun p hp => (by cases hp), by simp⟩
theorem qqv {M : Nat} {g : List Nd} (hg : g.length ≤ 1000000000) {c : List Int} (h : StG g c) (fuel : Nat) (hf : g.length + M + 2 ≤ fuel) (m : List Ms × Bool) (hm : ∀ v ∈ c, ((∃ y, zi m.1 v = some y) ∧ yD M g c g.length v) ∧ ∀ y, zi m.1 v = some y → y.fh ≤ 200 → zaY g c v y.fh) (P : Int × T → Prop) (hP : ∀ i q v t, zi g i = some q → q.fa = 1 → zi c i = some v → qz fuel v g c = some t → wt t ≤ 200 → P (q.fj, t)) :
 ∀ (n i : Nat) (out : List (Int × T)), g.length < n + i → i ≤ g.length → out.length ≤ i → (∀ p ∈ out, P p) → Yl (q0 (fun out_24 => some (out_24, 0)) fuel m n out (i : Int) g c) (Ar P)
 | 0, i, out, h1, h2, _, _ => by omega
 | n + 1, i, out, h1, h2, h3, h4 => by
  have hl := h.len
  rw [q0]
  by_cases hi : i < g.length
  · obtain ⟨v, hv, hvm⟩ := yo (l := c) (i := (i : Int)) oa oa
    obtain ⟨q, hq, hqm⟩ := yo (l := g) (i := (i : Int)) oa oa
    obtain ⟨⟨⟨y, hy⟩, ht⟩, hwg⟩ := hm v hvm
    obtain ⟨t, ht⟩ := ht fuel hf
    obtain ⟨r, hr, _⟩ := qjs h v
    obtain ⟨s, hs⟩ := qqa h v
    have hi' : wr ((i : Int) + 1) = ((i + 1 : Nat) : Int) := by
     rw [qgA oa]
     omega
    have next := fun out ho hp => qqv hg h fuel hf m hm P hP n (i + 1) out oa oa ho hp
    have bad : Yl (some (([] : List (Int × T)), (6 : Int))) (Ar P) := .pure (.nil _)
    have new : q.fa = 1 → y.fh ≤ 200 → ∀ j : Nat, j ≤ out.length → Yl (q0 (fun out_24 => some (out_24, 0)) fuel m n (out.take j ++ [(q.fj, t)] ++ out.drop j) ((i + 1 : Nat) : Int) g c) (Ar P) := fun hk hy2 j hj => next _ oe fun p hp => by
     simp only [jl, jn] at hp
     rcases hp with (hp | hp) | hp
     · exact h4 p (vd hp)
     · rw [hp]
       exact hP i q v t hq hk hv ht (by have := hwg y hy hy2 fuel t ht; omega)
     · exact h4 p (ve hp)
    rw [decide_eq_true oa, cond_true, hv, ja, hq, ja, hi']
    refine .cond (fun _ => next out oa h4) fun hk => ?_
    have hk := bF hk
    rw [hr, ja]
    refine .cond (fun _ => ?_) fun _ => ?_
    · rw [hs, ja]
      refine .cond (fun _ => next out oa h4) fun _ => ?_
      rw [hy, ja]
      refine .cond (fun _ => bad) fun hy2 => .cond (fun _ => bad) fun _ => ?_
      rw [ht, ja]
      obtain ⟨j, _, hj, e⟩ := qtg _ q out 0
      rw [e, qof _ out _ j oa oa]
      exact new hk (by have := dF hy2; omega) j oa
    · rw [hy, ja]
      refine .cond (fun _ => bad) fun hy2 => .cond (fun _ => bad) fun _ => ?_
      rw [ht, ja]
      obtain ⟨j, _, hj, e⟩ := qtZ _ q out 0
      rw [e, qof _ out _ j oa oa]
      exact new hk (by have := dF hy2; omega) j oa
  rw [decide_eq_false oa, cond_false]
  exact .pure ⟨h4, by show out.length ≤ _; omega⟩
theorem qus (θ : Int → T) {Q : List (Int × T) × Int → Prop} (hno : Q ([], 13)) (b : List T) (fuel : Nat) (hf : 1500000000 < fuel) {M : Nat} (hM : M ≤ 300000000) (k : List Nd → List Int → BsR) (hk : ∀ g c, StG g c → Kd M g → zaN g → zbh c (Ev θ g) → g.length ≤ 600000000 → Yl (k g c) Q) (hb : ∀ t ∈ b, yM t ∧ wt t ≤ M) :
 ∀ (l : List T) (i : Nat) (g : List Nd) (c : List Int), i + l.length = b.length → thL θ l = thL θ (b.drop i) → (∀ t ∈ l, yM t ∧ wt t ≤ M) → StG g c → Kd M g → zbG g → zaN g → zbh c (Ev θ g) → g.length + wtL l + wtL (b.drop i) ≤ 600000000 → Yl (qO k b fuel l i g c) Q
 | [], i, g, c, _, _, _, hs, hkd, _, hA, hF, hw => by
  rw [qO]
  exact hk g c hs hkd hA hF oa
 | t :: l, i, g, c, hi, hth, ht, hs, hkd, hv, hA, hF, hw => by
  rw [jg] at hi
  obtain ⟨u, hu, hum⟩ := yo (l := b) (i := (i : Int)) oa oa
  have hd : b.drop i = u :: b.drop (i + 1) := by
   rw [qdQ] at hu
   rw [jY oa]
   rw [jq oa] at hu
   rw [Option.some.inj hu]
  have hdrop : wtL (b.drop i) = wt u + wtL (b.drop (i + 1)) := by rw [hd, wtL]
  rw [hd, thL, thL] at hth
  obtain ⟨hth1, hth2⟩ := List.cons.inj hth
  rw [wtL, hdrop] at hw
  obtain ⟨x, g1, c1, e1, E1, v1, r1, q1⟩ := qiF fuel t g c (ht t (jd ..)).1 oa (ht t (jd ..)).2 hs hkd hv oa
  obtain ⟨s1, k1, m1, x0, x1⟩ := E1
  have F1 := qwN (M := M) hs hF ⟨s1, k1, m1⟩
  have hl1 := zah.le (M := M) (c := c) (c1 := c1) ⟨s1, k1, m1⟩
  obtain ⟨y, g2, c2, e2, E2, v2, r2, q2⟩ := qiF fuel u g1 c1 (hb u hum).1 (by have := (hb u hum).2; omega) (hb u hum).2 s1 k1 v1 oa
  obtain ⟨s2, k2, m2, y0, y1⟩ := E2
  have F2 := qwN (M := M) s1 F1 ⟨s2, k2, m2⟩
  have hl2 := zah.le (M := M) (c := c1) (c1 := c2) ⟨s2, k2, m2⟩
  have hc := qvW c2
  have hcl := s2.len
  obtain ⟨e, rfl, _⟩ := m2
  obtain ⟨ok, c3, e3, s3, _, F3⟩ := qpB (g := g1 ++ e) oa fuel x y c2 s2 oa oa x0 oa y0 y1
  have A2 := q2 (q1 hA)
  obtain ⟨hok, F4⟩ := F3 _ (Ev.resp θ _) F2 (.inr ⟨t, u, r1.more e, r2, hth1⟩)
  subst hok
  rw [qO, e1, ja, hu, ja]
  dsimp only
  rw [e2, ja]
  dsimp only
  rw [e3, ja, jL, cond_false]
  exact qus θ hno b fuel hf hM k hk hb l (i + 1) (g1 ++ e) c3 oa hth2 (fun t h => ht t (jf _ h)) s3 k2 v2 A2 F4 oa
theorem qBS (θ : Int → T) (fuel : Nat) (hf : 1500000000 < fuel) (a b : List T) (hl : a.length = b.length) (hth : thL θ a = thL θ b) (ha : ∀ t ∈ a, yM t) (hb : ∀ t ∈ b, yM t) (wa : wtL a ≤ 300000000) (wb : wtL b ≤ 300000000) : Yl (qcs fuel a b) (Ar fun p => θ p.1 = thT θ p.2 ∧ wt p.2 ≤ 200) := by
 unfold qcs
 refine qus θ (.nil _) (M := 300000000) b fuel hf (jk _) _ (fun g c hs hk hA hF hg => ?_) (fun t ht => ⟨hb t ht, by have := qgo ht; omega⟩) a 0 [] [] oa hth (fun t ht => ⟨ha t ht, by have := qgo ht; omega⟩) ⟨rfl, fun v hv => by simp at hv, fun v hv => by simp at hv, fun q hq => by simp at hq⟩ (fun q hq => by simp at hq) (fun q hq => by simp at hq) zaN.nil (fun i j v hi => absurd (qfM hi) og) oe
 obtain ⟨m, ok, e, hok⟩ := qqP (M := 300000000) oa oa hs hk fuel oa
 rw [e, ja]
 refine .cond (fun _ => .pure (.nil _)) fun h => ?_
 refine qqv (M := 300000000) oa hs fuel oa (m, ok) (hok (nF h)) (fun p => θ p.1 = thT θ p.2 ∧ wt p.2 ≤ 200) (fun i q v t hq hqk hv ht hw => ?_) fuel 0 [] oa oa og (fun p hp => by cases hp)
 obtain ⟨u, hu⟩ := hA i q hq
 obtain ⟨q', hq', huk, hui, _⟩ := hu.node
 obtain rfl := Option.some.inj (hq.symm.trans hq')
 exact ⟨by rw [qwL oa hs hk hA hF fuel v t ht i u hv hu, qrz θ (show u.k = 1 by rw [← huk, hqk]), ← hui], hw⟩
theorem qD4 (θ : Int → T) (fuel : Nat) (hf : 1500000000 < fuel) (a b : List T) (hth : thL θ a = thL θ b) (wa : wtL a ≤ 300000000) (wb : wtL b ≤ 300000000) : Yl (qaQ fuel a b) (Ar fun p => θ p.1 = thT θ p.2 ∧ wt p.2 ≤ 200) := by
 unfold qaQ
 refine qqb _ (fun x => Yl x (Ar fun p => θ p.1 = thT θ p.2 ∧ wt p.2 ≤ 200)) (.pure (.nil _)) a wa fun ha => qqX _ (fun x => Yl x (Ar fun p => θ p.1 = thT θ p.2 ∧ wt p.2 ≤ 200)) (.pure (.nil _)) b wb fun hb => ?_
 have hl : a.length = b.length := by simpa [qlc] using congrArg List.length hth
 rw [show ((a.length : Int) != (b.length : Int)) = false by simp [hl], cond_false]
 exact .bind (qBS θ fuel hf a b hl hth (fun t ht => qhD (ha t ht)) (fun t ht => qhD (hb t ht)) wa wb) fun r hr => .pure hr
/-! ### two numbers, or a number and a zbz, are not made equal -/
theorem qyl {g : List Nd} {c : List Int} (hs : StG g c) (hg : g.length ≤ 1000000000) {i j : Int} {p q : Nd} (hi : zi c i = some i) (hj : zi c j = some j) (hij : i ≠ j) (hp : zi g i = some p) (hq : zi g j = some q) (hpk : p.fa ≠ 1) (hqk : q.fa ≠ 1) (h1 : ∀ x, zi c x = some i → x = i) (h2 : ∀ x, zi c x = some j → x = j) (hne : p.fa ≠ q.fa ∨ p.fj ≠ q.fj) (fuel : Nat) (hf : g.length + 1 < fuel) : ∃ c', q8 fuel i j g c = some (false, g, c') := by
 obtain ⟨fuel, rfl⟩ : ∃ n, fuel = n + 1 := ⟨fuel - 1, by omega⟩
 have hl := hs.len
 rw [q8]
 dsimp only
 rw [hi, ja, hj, ja, uF hij, cond_false]
 obtain ⟨m, em, hm⟩ := qjs hs i
 obtain ⟨n, en, hn⟩ := qjs hs j
 have m0 : ¬ m < 0 := fun h => hpk (qoR em h hp hi)
 have n0 : ¬ n < 0 := fun h => hqk (qoR en h hq hj)
 rcases hm with rfl | ⟨p', hp', cp, _⟩
 omega
 rcases hn with rfl | ⟨q', hq', cq, _⟩
 omega
 obtain rfl := h1 m cp
 obtain rfl := h2 n cq
 obtain rfl := Option.some.inj (hp.symm.trans hp')
 obtain rfl := Option.some.inj (hq.symm.trans hq')
 have hj := qtu (fun g_13 g_14 => (bif (decide (m < (0 : Int))) then some (true, g_13, g_14) else (bif (decide (n < (0 : Int))) then some (true, g_13, g_14) else ((zi g_13 m).bind fun q_18 => ((zi g_13 n).bind fun q_19 => (bif (q_18.fa != q_19.fa) then some (false, g_13, g_14) else (bif (q_18.fj != q_19.fj) then some (false, g_13, g_14) else (bif (!(q_18.fF.toList == q_19.fF.toList)) then some (false, g_13, g_14) else (bif ((q_18.fe.length : Int) != (q_19.fe.length : Int)) then some (false, g_13, g_14) else (qI (fun g_31 g_32 => some (true, g_31, g_32)) (q8 fuel) q_19 q_18.fe 0 g_13 g_14)))))))))) m n g c [] fuel oa oe
 rw [jo, jo] at hj
 rw [em, ja, en, ja]
 refine ⟨c.map (mrg n m), hj.trans ?_⟩
 rw [decide_eq_false m0, cond_false, decide_eq_false n0, cond_false, hp, ja, hq, ja]
 by_cases e : p.fa = q.fa
 rw [show (p.fa != q.fa) = false by simpa using e, cond_false, show (p.fj != q.fj) = true by simpa using hne.resolve_left fun h => h e, cond_true]
 rw [show (p.fa != q.fa) = true by simpa using e, cond_true]
theorem qzi (fuel : Nat) (hf : 1500000000 < fuel) (s u : T) (a b : List T) (hsk : s.k ≠ 1) (huk : u.k ≠ 1) (hne : s.k ≠ u.k ∨ s.i ≠ u.i) (wa : wtL (s :: a) ≤ 300000000) (wb : wtL (u :: b) ≤ 300000000) : Yl (qaQ fuel (s :: a) (u :: b)) fun r => r.2 ≠ 0 := by
 unfold qaQ
 refine qqb _ (fun x => Yl x fun r => r.2 ≠ 0) (.pure og) _ wa fun ha => qqX _ (fun x => Yl x fun r => r.2 ≠ 0) (.pure og) _ wb fun hb => ?_
 refine .cond (fun _ => .pure og) fun _ => ?_
 rw [wtL] at wa wb
 unfold qcs
 obtain ⟨x, g1, c1, e1, E1, v1, r1, _⟩ := qiF (M := 300000000) fuel s [] [] (qhD (ha s (jd ..))) oa oa ⟨rfl, fun v hv => by simp at hv, fun v hv => by simp at hv, fun q hq => by simp at hq⟩ (fun q hq => by simp at hq) (fun q hq => by simp at hq) oe
 obtain ⟨s1, k1, m1, x0, x1⟩ := E1
 have hl1 := zah.le (M := 300000000) (g := []) (c := []) (c1 := c1) ⟨s1, k1, m1⟩
 obtain ⟨y, g2, c2, e2, E2, v2, r2, _⟩ := qiF (M := 300000000) fuel u g1 c1 (qhD (hb u (jd ..))) oa oa s1 k1 v1 (by simp at hl1; omega)
 obtain ⟨s2, k2, m2, y0, y1⟩ := E2
 have hl2 := zah.le (M := 300000000) (c := c1) (c1 := c2) ⟨s2, k2, m2⟩
 obtain ⟨d, hd, _, rfl⟩ := m1
 obtain rfl : d = g1 := by simpa using hd.symm
 obtain ⟨e, rfl, _, rfl⟩ := m2
 simp only [jo, jV, ju] at *
 have idc : ∀ z v, zi (((List.range' 0 d.length).map fun (x : Nat) => (x : Int)) ++ (List.range' d.length e.length).map fun (x : Nat) => (x : Int)) z = some v → v = z := fun z v h => by
  obtain ⟨h0, h1⟩ := qbV h
  rw [← jK] at h1
  have ha : List.range' 0 d.length ++ List.range' d.length e.length = List.range' 0 (d.length + e.length) := by
   have := @List.range'_append 0 d.length e.length 1
   simpa using this
  rw [ha] at h1
  obtain ⟨hb, h1⟩ := jt.1 h1
  rw [List.getElem_map, List.getElem_range'] at h1
  omega
 have idg : ∀ z : Int, 0 ≤ z → z < (d ++ e).length → zi (((List.range' 0 d.length).map fun (x : Nat) => (x : Int)) ++ (List.range' d.length e.length).map fun (x : Nat) => (x : Int)) z = some z := fun z h0 h1 => by
  obtain ⟨v, hv, _⟩ := yo (l := ((List.range' 0 d.length).map fun (x : Nat) => (x : Int)) ++ (List.range' d.length e.length).map fun (x : Nat) => (x : Int)) (i := z) h0 (by rw [je] at h1; simp; omega)
  rw [hv, idc z v hv]
 obtain ⟨p, hp, hpk, hpi, _⟩ := (r1.more e).node
 obtain ⟨q, hq, hqk, hqi, _⟩ := r2.node
 have hxy : x ≠ y := fun h => by
  subst h
  obtain rfl := Option.some.inj (hp.symm.trans hq)
  rcases hne with hne | hne
  exact hne (by rw [← hpk, hqk])
  exact hne (by rw [← hpi, hqi])
 obtain ⟨c3, e3⟩ := qyl s2 oa (idg x x0 (by rw [je]; omega)) (idg y y0 y1) hxy hp hq (by rw [hpk]; exact hsk) (by rw [hqk]; exact huk) (fun z hz => (idc z x hz).symm) (fun z hz => (idc z y hz).symm) (by rw [hpk, hqk, hpi, hqi]; exact hne) fuel oa
 have hu : zi (u :: b) ((0 : Nat) : Int) = some u := rfl
 rw [qO, e1, ja, hu, ja]
 dsimp only
 rw [e2, ja]
 dsimp only
 rw [e3, ja]
 exact .pure og
/-! ### layer 15 -/
theorem qv5 (s : ByteArray) (n : Int) : ∀ l : List qB, Yl (qU (some false) n s l) fun _ => True
 | [] => by rw [qU]; exact .pure trivial
 | d :: l => by
  rw [qU]
  exact .cond (fun _ => .cond (fun _ => .pure trivial) fun _ => qv5 s n l) fun _ => qv5 s n l
theorem qs4 (l : List qB) (s : ByteArray) (n : Int) : Yl (qcn l s n) fun _ => True := qv5 s n l
theorem qoQ {k : Int → Option Int} (hk : ∀ e, Yl (k e) fun _ => True) (s : ByteArray) : ∀ (l : List qB) (e : Int), Yl (qZ k s l e) fun _ => True
 | [], e => by rw [qZ]; exact hk e
 | d :: l, e => by
  rw [qZ]
  exact .cond (fun _ => qoQ hk s l _) fun _ => qoQ hk s l _
theorem qsu (l : List qB) (s : ByteArray) (n : Int) : Yl (qdu l s n) fun _ => True :=
 qoQ (fun e => .bind (qs4 l s n) fun _ _ => .cond (fun _ => .pure trivial) fun _ => .pure trivial) s l 7
theorem qtC (ds : List qB) : ∀ l : List Gl, Yl (qag (some 0) ds l) fun _ => True
 | [] => by rw [qag]; exact .pure trivial
 | g :: l => by
  rw [qag]
  exact .cond (fun _ => qtC ds l) fun _ => .bind (qsu ds _ _) fun _ _ => .cond (fun _ => .pure trivial) fun _ => qtC ds l
theorem qCA (n : Int) : Yl (qcB n) fun _ => True := by
 unfold qcB
 exact .cond (fun _ => .pure trivial) fun _ => .pure trivial
theorem qyv (n : Int) : ∀ l : List Int, Yl (qcq (some false) n l) fun _ => True
 | [] => by rw [qcq]; exact .pure trivial
 | x :: l => by
  rw [qcq]
  exact .cond (fun _ => .pure trivial) fun _ => qyv n l
theorem qpw {α : Type} {b : Nat} (hb : b ≤ 100) {l : List α} (h : l.length ≤ 1000000000) : zF b [] l = some l := by
 rw [qnC hb oe, jo]
structure BkR (r : qr) : Prop where
 a : ∀ a ∈ r.fi ++ r.ff, wtL a.ts ≤ 1000000000
 g : ∀ g ∈ r.fy ++ r.fg, wtL g.ts ≤ 1000000000
 la : r.fi.length + r.ff.length ≤ 1000000000
 lg : r.fy.length + r.fg.length ≤ 1000000000
 n : r.fA.size ≤ 9223372036854775807
structure yW (r : qr) : Prop where
 a : ∀ a ∈ r.fi ++ r.ff, zA a = true
 g : ∀ g ∈ r.fy ++ r.fg, zy g = true
 h0 : 0 < (r.fi ++ r.ff).length
 h4 : (r.fi ++ r.ff).length ≤ 4
 gl : r.fy.length ≤ 12
 bl : r.fg.length ≤ 12
theorem qnv {r : qr} (h : r.fi.length + r.ff.length ≤ 1000000000) : qcK r = some (r.fi ++ r.ff) := by
 rw [qcK, qpw oa oa, ja, qnC oa oa, ja]
theorem qoE {r : qr} (h : r.fy.length + r.fg.length ≤ 1000000000) : qdk r = some (r.fy ++ r.fg) := by
 rw [qdk, qpw oa oa, ja, qnC oa oa, ja]
theorem qnw {r : qr} (h : r.fi.length + r.ff.length ≤ 1000000000) : qcM r = some (r.fi ++ r.ff) := by
 rw [qcM, qpw oa oa, ja, qnC oa oa, ja]
theorem qD2 {k : List T → Option (List Int)} : ∀ (l : List At) (ts : List T), (∀ a ∈ l, zA a = true) → wtL ts + 200 * l.length ≤ 1000000 → (∀ us, wtL us ≤ wtL ts + 200 * l.length → Yl (k us) fun _ => True) → Yl (qa1 k l ts) fun _ => True
 | [], ts, _, hw, hk => by rw [qa1]; exact hk ts oa
 | a :: l, ts, ha, hw, hk => by
  rw [jg] at hw hk
  have h1 := (qgj (ha a (jd ..))).2.1
  have h2 := qhi ts
  have h3 := qhi a.ts
  rw [qa1, qnC oa oa, ja]
  exact qD2 l _ (fun b hb => ha b (jf _ hb)) (by rw [qne]; omega) fun us hus => hk us (by rw [qne] at hus; omega)
theorem qEw {k : List T → Option (List Int)} : ∀ (l : List At) (ts : List T), (∀ a ∈ l, zA a = true) → wtL ts + 200 * l.length ≤ 1000000 → ∀ Q : List Int → Prop, (∀ us, wtL us ≤ wtL ts + 200 * l.length → Yl (k us) Q) → Yl (qb5 k l ts) Q
 | [], ts, _, hw, Q, hk => by rw [qb5]; exact hk ts oa
 | a :: l, ts, ha, hw, Q, hk => by
  rw [jg] at hw hk
  have h1 := (qgj (ha a (jd ..))).2.1
  have h2 := qhi ts
  have h3 := qhi a.ts
  rw [qb5, qnC oa oa, ja]
  exact qEw l _ (fun b hb => ha b (jf _ hb)) (by rw [qne]; omega) Q fun us hus => hk us (by rw [qne] at hus; omega)
theorem qDW {k : List T → Option (List Int)} : ∀ (l : List Gl) (ts : List T), (∀ a ∈ l, zy a = true) → wtL ts + 200 * l.length ≤ 1000000 → ∀ Q : List Int → Prop, (∀ us, wtL us ≤ wtL ts + 200 * l.length → Yl (k us) Q) → Yl (qb0 k l ts) Q
 | [], ts, _, hw, Q, hk => by rw [qb0]; exact hk ts oa
 | a :: l, ts, ha, hw, Q, hk => by
  rw [jg] at hw hk
  have h1 := (qhc (ha a (jd ..))).2
  have h2 := qhi ts
  have h3 := qhi a.ts
  rw [qb0, qnC oa oa, ja]
  exact qDW l _ (fun b hb => ha b (jf _ hb)) (by rw [qne]; omega) Q fun us hus => hk us (by rw [qne] at hus; omega)
theorem qyX (fuel : Nat) (ts : List T) (h : wtL ts < fuel) (hm : wtL ts ≤ 1000000000) : Yl (qbD fuel ts) fun _ => True := .of (qnq fuel ts h hm) trivial
theorem qvy (fuel : Nat) (hf : 1000000000 < fuel) {r : qr} (h : yW r) : Yl (qea fuel r) fun _ => True := by
 have h4 := h.h4
 have h4' := h4
 rw [je] at h4'
 unfold qea
 rw [qnv oa, ja]
 exact qD2 _ [] h.a (by simp [wtL]; omega) fun us hus => .bind (qyX fuel us (by simp [wtL] at hus; omega) (by simp [wtL] at hus; omega)) fun _ _ => .pure trivial
theorem qzh (fuel : Nat) (hf : 1000000000 < fuel) {r : qr} (h : yW r) : Yl (qe3 fuel r) fun _ => True := by
 have h4 := h.h4
 have h4' := h4
 have hg := h.gl
 have hb := h.bl
 have hgl : (r.fy ++ r.fg).length ≤ 24 := by rw [je]; omega
 rw [je] at h4'
 unfold qe3
 rw [qnv oa, ja]
 refine qEw _ [] h.a (by simp [wtL]; omega) _ fun us hus => ?_
 rw [qoE oa, ja]
 simp only [wtL] at hus
 exact qDW _ us h.g oa _ fun ws hws => .bind (qyX fuel ws oa oa) fun _ _ => .pure trivial
theorem qsE (fuel : Nat) (hf : 1000000000 < fuel) (ds : List qB) {r : qr} (h : yW r) : Yl (qdr fuel ds r) fun _ => True := by
 have h4 := h.h4
 have hg := h.gl
 have hb := h.bl
 rw [je] at h4
 unfold qdr
 rw [qnv oa, ja, qoE oa, ja]
 have l4 : ∀ (k : Option Int) (_ : Yl k fun _ => True) (v l : List Int), Yl (qbi k v l) fun _ => True := fun k hk v l => by
  induction l with
  | nil => rw [qbi]; exact hk
  | cons x l ih =>
   rw [qbi]
   exact .bind (qyv x v) fun _ _ => .cond (fun _ => .pure trivial) fun _ => ih
 have l3 : ∀ (v : List Int) (l : List Gl), (∀ g ∈ l, zy g = true) → Yl (qbl (some 0) fuel v l) fun _ => True := fun v l hl => by
  induction l with
  | nil => rw [qbl]; exact .pure trivial
  | cons x l ih =>
   have := (qhc (hl x (jd ..))).2
   rw [qbl]
   refine .bind (R := fun _ => True) ?_ fun w _ => l4 _ (ih fun g hg => hl g (jf _ hg)) v w
   unfold qcm
   exact .bind (qyX fuel x.ts oa oa) fun _ _ => .pure trivial
 have l2 : ∀ (k : Option Int) (_ : Yl k fun _ => True) (l : List Gl), Yl (qbf k l) fun _ => True := fun k hk l => by
  induction l with
  | nil => rw [qbf]; exact hk
  | cons x l ih =>
   rw [qbf]
   exact .bind (qCA _) fun _ _ => .cond (fun _ => .pure trivial) fun _ => ih
 have l1 : ∀ (k : Option Int) (_ : Yl k fun _ => True) (l : List Gl), Yl (qaP k l) fun _ => True := fun k hk l => by
  induction l with
  | nil => rw [qaP]; exact hk
  | cons x l ih =>
   rw [qaP]
   exact .bind (qCA _) fun _ _ => .cond (fun _ => .cond (fun _ => .pure trivial) fun _ => ih) fun _ => ih
 have l0 : ∀ (k : Option Int) (_ : Yl k fun _ => True) (l : List At), Yl (qbe k ds l) fun _ => True := fun k hk l => by
  induction l with
  | nil => rw [qbe]; exact hk
  | cons x l ih =>
   rw [qbe]
   exact .bind (qsu _ _ _) fun _ _ => .cond (fun _ => .pure trivial) fun _ => ih
 refine l0 _ (.bind (qtC ds _) fun _ _ => .cond (fun _ => .pure trivial) fun _ => l1 _ (l2 _ (.bind (qvy fuel hf h) fun v _ => l3 v _ fun g hg => h.g g (jr _ hg)) _) _) _
theorem qCl {Q : Int → Prop} (hQ : Q 2) {k : Option Int} : ∀ l : List At, (∀ a ∈ l, wtL a.ts ≤ 1000000000) → ((∀ a ∈ l, zA a = true) → Yl k Q) → Yl (qaW k l) Q
 | [], _, hk => by rw [qaW]; exact hk fun a h => by cases h
 | a :: l, hw, hk => by
  rw [qaW, qh4 a (by have := hw a (jd ..); omega), ja]
  refine .cond (fun _ => .pure hQ) fun h => qCl hQ l (fun b hb => hw b (jf _ hb)) fun hl => hk fun b hb => ?_
  rcases jh.1 hb with rfl | hb
  exact nF h
  exact hl b hb
theorem qCD {Q : Int → Prop} (hQ : Q 2) {k : Option Int} : ∀ l : List Gl, (∀ a ∈ l, wtL a.ts ≤ 1000000000) → ((∀ a ∈ l, zy a = true) → Yl k Q) → Yl (qaT k l) Q
 | [], _, hk => by rw [qaT]; exact hk fun a h => by cases h
 | a :: l, hw, hk => by
  rw [qaT, qh5 a (by have := hw a (jd ..); omega), ja]
  refine .cond (fun _ => .pure hQ) fun h => qCD hQ l (fun b hb => hw b (jf _ hb)) fun hl => hk fun b hb => ?_
  rcases jh.1 hb with rfl | hb
  exact nF h
  exact hl b hb
theorem qCG {Q : Int → Prop} (hQ : Q 2) {k : Option Int} (hk : Yl k Q) : ∀ (l : List Int) (i : Nat), Yl (qaU k l i) Q
 | [], i => by rw [qaU]; exact hk
 | x :: l, i => by
  rw [qaU]
  exact .cond (fun _ => .pure hQ) fun _ => qCG hQ hk l _
theorem qx9 (fuel : Nat) (hf : 1000000000 < fuel) (ds : List qB) (r : qr) (h : BkR r) : Yl (qdP fuel ds r) fun e => e = 0 → yW r := by
 unfold qdP
 have hla := h.la
 have hlg := h.lg
 rw [qnv oa, ja, qoE oa, ja]
 refine .cond (fun _ => .pure og) fun e0 => .cond (fun _ => .pure og) fun e4 => .cond (fun _ => .pure og) fun eg => .cond (fun _ => .pure og) fun eb => ?_
 have e0 := eF e0
 have e4 := dF e4
 have eg := dF eg
 have eb := dF eb
 refine qCl og _ h.a fun ha => qCD og _ h.g fun hg => ?_
 have ok : yW r := ⟨ha, hg, by omega, by omega, by omega, by omega⟩
 refine .bind (qzh fuel hf ok) fun v _ => qCG og ?_ v 0
 refine .cond (fun _ => .pure og) fun _ => .cond (fun _ => ?_) fun _ => .bind (qsE fuel hf ds ok) fun _ _ => .pure fun _ => ok
 rw [qm7, if_pos h.n, ja]
 exact .cond (fun _ => .pure og) fun _ => .bind (qsE fuel hf ds ok) fun _ _ => .pure fun _ => ok
structure BkP (p : qc) : Prop where
 r : ∀ r ∈ p.fd, BkR r
 n : ∀ d ∈ p.fx, d.fA.size ≤ 9223372036854775807
structure yC (p : qc) : Prop where
 r : ∀ r ∈ p.fd, yW r
 l : p.fd.length ≤ 40
theorem qyZ (fuel : Nat) (hf : 1000000000 < fuel) (p : qc) : ∀ (l : List qr) (i : Nat), (∀ r ∈ l, BkR r) → Yl (qbI (some (0, 0)) fuel p l i) fun e => e.2 = 0 → ∀ r ∈ l, yW r
 | [], i, _ => by rw [qbI]; exact .pure fun _ r h => by cases h
 | r :: l, i, h => by
  rw [qbI]
  refine .bind (qx9 fuel hf _ r (h r (jd ..))) fun e he => .cond (fun h1 => .pure fun h2 => absurd h2 (bT h1)) fun h1 => ?_
  refine (qyZ fuel hf p l (i + 1) fun x hx => h x (jf _ hx)).mono fun e2 h2 h3 x hx => ?_
  rcases jh.1 hx with rfl | hx
  exact he (bF h1)
  exact h2 h3 x hx
theorem qAS (p : qc) {Q : Int × Int → Prop} (hQ : ∀ a b, b ≠ 0 → Q (a, b)) {k : Option (Int × Int)} (hk : Yl k Q) : ∀ (l : List qB) (i : Nat), (∀ d ∈ l, d.fA.size ≤ 9223372036854775807) → i + l.length = p.fx.length → Yl (qbL k p l i) Q
 | [], i, _, _ => by rw [qbL]; exact hk
 | d :: l, i, h, hl => by
  rw [jg] at hl
  rw [qbL, qm7, if_pos (h d (jd ..)), ja]
  refine .cond (fun _ => .pure (hQ _ _ oa)) fun _ => .cond (fun _ => .pure (hQ _ _ oa)) fun _ => .cond (fun _ => .pure (hQ _ _ oa)) fun _ => ?_
  rw [show zZ p.fx 0 (i : Int) = some ((p.fx.take (i : Int).toNat).drop (0 : Int).toNat) by unfold zZ; rw [if_pos oa], ja]
  exact .bind (qs4 _ _ _) fun _ _ => .cond (fun _ => .pure (hQ _ _ oa)) fun _ => qAS p hQ hk l (i + 1) (fun x hx => h x (jf _ hx)) oa
theorem qyC (fuel : Nat) (hf : 1000000000 < fuel) (p : qc) (h : BkP p) : Yl (qdW fuel p) fun e => e.2 = 0 → yC p := by
 unfold qdW
 refine .cond (fun _ => .pure og) fun _ => qAS p (fun a b hb h => absurd h hb) ?_ _ 0 h.n oa
 refine .cond (fun _ => .pure og) fun hl => (qyZ fuel hf p _ 0 h.r).mono fun e he h0 => ⟨he h0, by have := dF hl; omega⟩
/-! ### layer 19 -/
structure zb9 (l : List (Int × At)) : Prop where
 a : ∀ q ∈ l, zA q.2 = true
 p : ∀ q ∈ l, 1 ≤ q.1
 s : l.Pairwise fun q r => q.1 < r.1
 n : l.length ≤ 500
theorem qzl {α : Type} {R : α → α → Prop} (htr : ∀ a b c, R a b → R b c → R a c) : ∀ {l : List α} {x y : α}, (l ++ [x]).Pairwise R → R x y → (l ++ [x] ++ [y]).Pairwise R := fun {l x y} h hxy => by
 rw [List.pairwise_append] at h ⊢
 refine ⟨List.pairwise_append.2 h, Jm .., fun a ha b hb => ?_⟩
 rw [jn.1 hb]
 rcases jl.1 ha with ha | ha
 exact htr _ _ _ (h.2.2 a ha x (jn.2 rfl)) hxy
 rw [jn.1 ha]
 exact hxy
theorem qvn {α : Type} {l done rest : List α} {i : Nat} (h : l = done ++ rest) (hi : i = done.length) (h0 : 0 < i) (hl : l.length ≤ 9000000000000000000) : ∃ pre x, done = pre ++ [x] ∧ zi l (wr ((i : Int) - 1)) = some x := by
 have hd : done ≠ [] := fun e => by rw [e] at hi; simp at hi; omega
 refine ⟨done.dropLast, done.getLast hd, (Jn hd).symm, ?_⟩
 have hle : i ≤ l.length := by rw [h, je]; omega
 rw [qgA oa, show (i : Int) - 1 = ((i - 1 : Nat) : Int) by omega, qdQ, h, jT oa, List.getLast_eq_getElem, hi]
 exact jq _
theorem qDZ (l : List (Int × At)) (hl : l.length ≤ 9000000000000000000) : ∀ (rest done : List (Int × At)) (i : Nat), l = done ++ rest → i = done.length → (∀ q ∈ rest, wtL q.2.ts ≤ 1000000000) → ((∀ q ∈ done, zA q.2 = true) ∧ (∀ q ∈ done, 1 ≤ q.1) ∧ done.Pairwise fun q r => q.1 < r.1) → Yl (qaI (some true) l rest i) fun b => b = true → (∀ q ∈ l, zA q.2 = true) ∧ (∀ q ∈ l, 1 ≤ q.1) ∧ l.Pairwise fun q r => q.1 < r.1
 | [], done, i, h, hi, _, hd => by
  rw [qaI]
  rw [js] at h
  exact .pure fun _ => by rw [h]; exact hd
 | q :: rest, done, i, h, hi, hw, ⟨d1, d2, d3⟩ => by
  rw [qaI]
  have hwq := hw q (jd ..)
  refine .cond (fun _ => .pure fun h => by cases h) fun h1 => ?_
  have h1 := dF h1
  have next : zA q.2 = true → (done ++ [q]).Pairwise (fun q r => q.1 < r.1) → Yl (qaI (some true) l rest (i + 1)) fun b => b = true → (∀ q ∈ l, zA q.2 = true) ∧ (∀ q ∈ l, 1 ≤ q.1) ∧ l.Pairwise fun q r => q.1 < r.1 := fun hr hp =>
   qDZ l hl rest (done ++ [q]) (i + 1) (by rw [h, ji]; rfl) (by rw [je, jp]; omega) (fun x hx => hw x (jf _ hx)) ⟨fun x hx => by
    rcases jl.1 hx with hx | hx
    exact d1 x hx
    rw [jn.1 hx]; exact hr, fun x hx => by
    rcases jl.1 hx with hx | hx
    exact d2 x hx
    rw [jn.1 hx]; omega, hp⟩
  refine .cond (fun h0 => ?_) fun h0 => ?_
  · have h0 := dT h0
    obtain ⟨pre, x, hx, hg⟩ := qvn h hi oa hl
    rw [hg, ja]
    refine .cond (fun _ => .pure fun h => by cases h) fun h2 => ?_
    have h2 := dF h2
    rw [qh4 q.2 hwq, ja]
    refine .cond (fun _ => .pure fun h => by cases h) fun h3 => next (nF h3) ?_
    rw [hx] at d3 ⊢
    exact qzl (fun _ _ _ a b => by omega) d3 oa
  · have h0 := dF h0
    rw [qh4 q.2 hwq, ja]
    refine .cond (fun _ => .pure fun h => by cases h) fun h3 => next (nF h3) ?_
    rw [jA (l := done) oa]
    exact Jm ..
theorem qAV (l : List (Int × At)) (hw : ∀ q ∈ l, wtL q.2.ts ≤ 1000000000) : Yl (qdj l) fun b => b = true → zb9 l := by
 unfold qdj
 refine .cond (fun _ => .pure fun h => by cases h) fun hl => ?_
 have hl := dF hl
 exact (qDZ l oa l [] 0 rfl rfl hw ⟨fun q h => (by cases h), fun q h => (by cases h), List.Pairwise.nil⟩).mono fun b hb h => ⟨(hb h).1, (hb h).2.1, (hb h).2.2, by omega⟩
/-! ### layer 6 -/
structure zbl (b : En) : Prop where
 t : ∀ q ∈ b, zN q.2 = true
 v : ∀ q ∈ b, 0 ≤ q.1 ∧ q.1 ≤ 1048576
 s : b.Pairwise fun q r => q.1 < r.1
 f : ∀ q ∈ b, ∀ x ∈ yh q.2, zt b x = none
theorem qxj {k : Option Bool} {Q : Bool → Prop} (hQ : Q false) (b : En) : ∀ l : List Int, ((∀ x ∈ l, zt b x = none) → Yl k Q) → Yl (qbK k b l) Q
 | [], hk => by rw [qbK]; exact hk fun x h => by cases h
 | x :: l, hk => by
  rw [qbK, qn3, ja]
  refine .cond (fun _ => .pure hQ) fun h => qxj hQ b l fun hl => hk fun y hy => ?_
  rcases jh.1 hy with rfl | hy
  simpa using h
  exact hl y hy
theorem qw2 (b : En) (fuel : Nat) (hf : 1000000000 < fuel) : ∀ l : En, (∀ q ∈ l, wt q.2 ≤ 1000000000) → Yl (qbG (some true) b fuel l) fun r => r = true → ∀ q ∈ l, ∀ x ∈ yh q.2, zt b x = none
 | [], _ => by rw [qbG]; exact .pure fun _ q h => by cases h
 | q :: l, hw => by
  have hq := hw q (jd ..)
  rw [qbG, qsX fuel q.2 oa oa, ja]
  refine qxj (fun h => by cases h) b _ fun h1 => (qw2 b fuel hf l fun x hx => hw x (jf _ hx)).mono fun r h2 h3 p hp x hx => ?_
  rcases jh.1 hp with rfl | hp
  exact h1 x (qjM.2 (.inr hx))
  exact h2 h3 p hp x hx
theorem qD9 (b : En) (hl : b.length ≤ 9000000000000000000) {k : Option Bool} {Q : Bool → Prop} (hQ : Q false) (hk : (∀ q ∈ b, zN q.2 = true) → (∀ q ∈ b, 0 ≤ q.1 ∧ q.1 ≤ 1048576) → (b.Pairwise fun q r => q.1 < r.1) → Yl k Q) : ∀ (rest done : En) (i : Nat), b = done ++ rest → i = done.length → (∀ q ∈ rest, wt q.2 ≤ 1000000000) → ((∀ q ∈ done, zN q.2 = true) ∧ (∀ q ∈ done, 0 ≤ q.1 ∧ q.1 ≤ 1048576) ∧ done.Pairwise fun q r => q.1 < r.1) → Yl (qaF k b rest i) Q
 | [], done, i, h, hi, _, ⟨d1, d2, d3⟩ => by
  rw [qaF]
  rw [js] at h
  exact hk (by rw [h]; exact d1) (by rw [h]; exact d2) (by rw [h]; exact d3)
 | q :: rest, done, i, h, hi, hw, ⟨d1, d2, d3⟩ => by
  rw [qaF]
  have hwq := hw q (jd ..)
  refine .cond (fun _ => .pure hQ) fun h1 => .cond (fun _ => .pure hQ) fun h1' => ?_
  have h1 := dF h1
  have h1' := dF h1'
  have next : zN q.2 = true → (done ++ [q]).Pairwise (fun q r => q.1 < r.1) → Yl (qaF k b rest (i + 1)) Q := fun hr hp =>
   qD9 b hl hQ hk rest (done ++ [q]) (i + 1) (by rw [h, ji]; rfl) (by rw [je, jp]; omega) (fun x hx => hw x (jf _ hx)) ⟨fun x hx => by
    rcases jl.1 hx with hx | hx
    exact d1 x hx
    rw [jn.1 hx]; exact hr, fun x hx => by
    rcases jl.1 hx with hx | hx
    exact d2 x hx
    rw [jn.1 hx]; omega, hp⟩
  refine .cond (fun h0 => ?_) fun h0 => ?_
  · have h0 := dT h0
    obtain ⟨pre, x, hx, hg⟩ := qvn h hi oa hl
    rw [hg, ja]
    refine .cond (fun _ => .pure hQ) fun h2 => ?_
    have h2 := dF h2
    rw [qji q.2 hwq, ja]
    refine .cond (fun _ => .pure hQ) fun h3 => next (nF h3) ?_
    rw [hx] at d3 ⊢
    exact qzl (fun _ _ _ a b => by omega) d3 oa
  · have h0 := dF h0
    rw [qji q.2 hwq, ja]
    refine .cond (fun _ => .pure hQ) fun h3 => next (nF h3) ?_
    rw [jA (l := done) oa]
    exact Jm ..
theorem qEi (fuel : Nat) (hf : 1000000000 < fuel) (b : En) (hl : b.length ≤ 9000000000000000000) (hw : ∀ q ∈ b, wt q.2 ≤ 1000000000) : Yl (qd6 fuel b) fun r => r = true → zbl b := by
 unfold qd6
 refine qD9 b hl (fun h => by cases h) (fun h1 h2 h3 => ?_) b [] 0 rfl rfl hw ⟨fun q h => (by cases h), fun q h => (by cases h), List.Pairwise.nil⟩
 unfold qfz
 exact .bind (qw2 b fuel hf b hw) fun r hr => .pure fun h => ⟨h1, h2, h3, hr h⟩
theorem qxA : ∀ {b : En}, (b.Pairwise fun q r => q.1 < r.1) → ∀ q ∈ b, zt b q.1 = some q.2
 | p :: b, h, q, hq => by
  obtain ⟨h1, h2⟩ := Jh.1 h
  rw [zt]
  rcases jh.1 hq with rfl | hq
  rw [if_pos rfl]
  have := h1 q hq
  rw [if_neg oa]
  exact qxA h2 q hq
theorem qu7 : ∀ (b : En) (lo hi : Int), (b.Pairwise fun q r => q.1 < r.1) → (∀ q ∈ b, lo ≤ q.1 ∧ q.1 < hi) → lo ≤ hi → (b.length : Int) ≤ hi - lo
 | [], lo, hi, _, _, h => by simp; omega
 | p :: b, lo, hi, h, hv, hlh => by
  obtain ⟨h1, h2⟩ := Jh.1 h
  have hp := hv p (jd ..)
  have := qu7 b (p.1 + 1) hi h2 (fun q hq => by have := h1 q hq; have := hv q (jf _ hq); omega) oa
  rw [jg]
  omega
theorem zbl.len {b : En} (h : zbl b) : b.length ≤ 1048577 := by
 have := qu7 b 0 1048577 h.s (fun q hq => by have := h.v q hq; omega) oa
 omega
/-! ### layer 21 -/
theorem qt0 (n : Int) : ∀ l : List Int, Yl (qch (some false) n l) fun _ => True
 | [] => by rw [qch]; exact .pure trivial
 | x :: l => by rw [qch]; exact .cond (fun _ => .pure trivial) fun _ => qt0 n l
theorem qCH (f : qm) : ∀ (l : List Int) (i : Nat), i + l.length = f.fq.length → Yl (qbS (some true) f l i) fun _ => True
 | [], i, _ => by rw [qbS]; exact .pure trivial
 | x :: l, i, h => by
  rw [jg] at h
  rw [qbS]
  refine .cond (fun _ => .pure trivial) fun _ => ?_
  rw [show zZ f.fq 0 (i : Int) = some ((f.fq.take (i : Int).toNat).drop (0 : Int).toNat) by unfold zZ; rw [if_pos oa], ja]
  exact .bind (qt0 x _) fun _ _ => .cond (fun _ => .pure trivial) fun _ => qCH f l (i + 1) oa
theorem qsC (f : qm) : Yl (qdU f) fun b => b = true → f.fq.length ≤ 4 := by
 unfold qdU
 refine .cond (fun _ => .pure fun h => by cases h) fun _ => .cond (fun _ => .pure fun h => by cases h) fun _ => .cond (fun _ => .pure fun h => by cases h) fun _ => .cond (fun _ => .pure fun h => by cases h) fun h => ?_
 have h := dF h
 exact (qCH f _ 0 oa).mono fun _ _ _ => by omega
theorem qv4 (a b : Int) : Yl (qdy a b) fun _ => True := by
 unfold qdy
 exact .cond (fun _ => .pure trivial) fun _ => .cond (fun _ => .pure trivial) fun _ => .pure trivial
theorem qtS (b : qm) : ∀ (l : List Int) (c : Int) (i : Nat), Yl (qbh (fun c => some c) b l c i) fun _ => True
 | [], c, i => by rw [qbh]; exact .pure trivial
 | x :: l, c, i => by
  rw [qbh]
  refine .cond (fun h => .cond (fun _ => ?_) fun _ => .pure trivial) fun _ => .pure trivial
  have h := dT h
  obtain ⟨y, hy, _⟩ := yo (l := b.fq) (i := (i : Int)) oa h
  rw [hy, ja]
  exact .bind (qv4 x y) fun c' _ => qtS b l c' (i + 1)
theorem qtt (a b : qm) : Yl (qcS a b) fun _ => True := by
 unfold qcS qeC
 exact .bind (qv4 _ _) fun r _ => .cond (fun _ => .bind (qv4 _ _) fun c _ => qtS b _ c 0) fun _ => qtS b _ r 0
theorem qyx (l : List qm) (hl : l.length ≤ 9000000000000000000) : ∀ (rest done : List qm) (i : Nat), l = done ++ rest → i = done.length → Yl (qaE (some true) l rest i) fun b => b = true → ∀ f ∈ rest, f.fq.length ≤ 4
 | [], done, i, h, hi => by rw [qaE]; exact .pure fun _ f h => by cases h
 | q :: rest, done, i, h, hi => by
  rw [qaE]
  refine .bind (qsC q) fun b hb => .cond (fun _ => .pure fun h => by cases h) fun h1 => ?_
  have next : Yl (qaE (some true) l rest (i + 1)) fun b => b = true → ∀ f ∈ q :: rest, f.fq.length ≤ 4 := (qyx l hl rest (done ++ [q]) (i + 1) (by rw [h, ji]; rfl) (by rw [je, jp]; omega)).mono fun b' h2 h3 f hf => by
   rcases jh.1 hf with rfl | hf
   exact hb (nF h1)
   exact h2 h3 f hf
  refine .cond (fun h0 => ?_) fun _ => next
  have h0 := dT h0
  obtain ⟨pre, x, hx, hg⟩ := qvn h hi oa hl
  rw [hg, ja]
  exact .bind (qtt x q) fun _ _ => .cond (fun _ => .pure fun h => by cases h) fun _ => next
theorem qzb (l : List qm) : Yl (qd2 l) fun b => b = true → (∀ f ∈ l, f.fq.length ≤ 4) ∧ l.length ≤ 5000 := by
 unfold qd2
 refine .cond (fun _ => .pure fun h => by cases h) fun hl => ?_
 have hl := dF hl
 exact (qyx l oa l [] 0 rfl rfl).mono fun b hb h => ⟨hb h, by omega⟩
/-! ### layer 23: states -/
theorem qAz {Q : Bool → Prop} (hQ : Q false) (b : En) (fresh : Int) {k : Option Bool} : ∀ l : List Int, ((∀ x ∈ l, x < fresh ∧ zt b x = none) → Yl k Q) → Yl (qb4 k b fresh l) Q
 | [], hk => by rw [qb4]; exact hk fun x h => by cases h
 | x :: l, hk => by
  rw [qb4]
  refine .cond (fun _ => .pure hQ) fun h1 => ?_
  have h1 := dF h1
  rw [qn3, ja]
  refine .cond (fun _ => .pure hQ) fun h => qAz hQ b fresh l fun hl => hk fun y hy => ?_
  rcases jh.1 hy with rfl | hy
  exact ⟨by omega, by simpa using h⟩
  exact hl y hy
theorem qvp (b : En) (fresh : Int) (l : List Int) : Yl (qdx l fresh b) fun r => r = true → ∀ x ∈ l, x < fresh ∧ zt b x = none := by
 unfold qdx
 exact qAz (fun h => by cases h) b fresh l fun h => .pure fun _ => h
theorem qBq (fuel : Nat) (hf : 1000000000 < fuel) (g : Gl) (hw : wtL g.ts ≤ 1000000000) (b : En) (fresh : Int) : Yl (qe4 fuel g fresh b) fun r => r = true → ∀ x ∈ zu g.ts, zt b x = none := by
 unfold qe4 qcm
 rw [qnq fuel g.ts oa hw, ja, ja]
 exact .bind (qvp b fresh _) fun r hr => .pure fun h x hx => (hr h x (qjM.2 (.inr hx))).2
theorem qAK (id : Int) : ∀ l : List (Int × At), Yl (qav (some ((⟨⟨#[]⟩, []⟩ : At), false)) id l) fun r => r.2 = true → (id, r.1) ∈ l
 | [] => by rw [qav]; exact .pure fun h => by cases h
 | q :: l => by
  rw [qav]
  refine .cond (fun h => .pure fun _ => ?_) fun _ => (qAK id l).mono fun r hr h => jf _ (hr h)
  rw [← eT h]
  exact jd ..
theorem qz6 (l : List (Int × At)) (id : Int) : Yl (qej l id) fun r => r.2 = true → (id, r.1) ∈ l := qAK id l
structure zat (l : List (Int × At)) (b : En) (h : List qm) (next fresh : Int) : Prop where
 st : zb9 l
 bd : zbl b
 hl : h.length ≤ 5000
 hi : ∀ f ∈ h, f.fq.length ≤ 4
 n1 : 1 ≤ next
 n2 : next ≤ 2147483648
 f1 : 0 ≤ fresh
 f2 : fresh ≤ 1048576
 id : ∀ q ∈ l, q.1 < next
 fr : ∀ q ∈ l, ∀ x ∈ zu q.2.ts, zt b x = none
theorem qEu (l : List (Int × At)) {k : Option Bool} {Q : Bool → Prop} (hQ : Q false) (hk : Yl k Q) : ∀ ids : List Int, Yl (qbx k l ids) Q
 | [] => by rw [qbx]; exact hk
 | x :: ids => by
  rw [qbx]
  exact .bind (qz6 l x) fun _ _ => .cond (fun _ => .pure hQ) fun _ => qEu l hQ hk ids
theorem qEl (l : List (Int × At)) {p : qc} (hp : yC p) {Q : Bool → Prop} (hQ : Q false) (hT : Q true) : ∀ h : List qm, Yl (qbs (some true) l p h) Q
 | [] => by rw [qbs]; exact .pure hT
 | f :: h => by
  rw [qbs]
  refine .cond (fun _ => .pure hQ) fun h1 => .cond (fun _ => .pure hQ) fun h2 => ?_
  have h1 := dF h1
  have h2 := dF h2
  obtain ⟨r, hr, hrm⟩ := yo (l := p.fd) (i := f.fC) oa oa
  have h4 := (hp.r r hrm).h4
  rw [je] at h4
  rw [hr, ja, qa2, ja]
  refine .cond (fun _ => .pure hQ) fun _ => ?_
  rw [qnw oa, ja]
  exact .cond (fun _ => .pure hQ) fun _ => qEu l hQ (qEl l hp hQ hT h) _
theorem qEF {Q : Bool → Prop} (hQ : Q false) (b : En) (fresh : Int) (fuel : Nat) (hf : 1000000000 < fuel) {k : Option Bool} (hk : Yl k Q) : ∀ l : En, (∀ q ∈ l, wt q.2 ≤ 1000000000) → Yl (qbw k b fresh fuel l) Q
 | [], _ => by rw [qbw]; exact hk
 | q :: l, hw => by
  have hq := hw q (jd ..)
  rw [qbw]
  refine .cond (fun _ => .pure hQ) fun _ => ?_
  rw [qsX fuel q.2 oa hq, ja]
  exact .bind (qvp b fresh _) fun _ _ => .cond (fun _ => .pure hQ) fun _ => qEF hQ b fresh fuel hf hk l fun x hx => hw x (jf _ hx)
theorem qEE {Q : Bool → Prop} (hQ : Q false) (b : En) (fresh next : Int) (p : qc) (fuel : Nat) (hf : 1000000000 < fuel) {k : Option Bool} : ∀ l : List (Int × At), (∀ q ∈ l, zA q.2 = true) → ((∀ q ∈ l, q.1 < next) → (∀ q ∈ l, ∀ x ∈ zu q.2.ts, zt b x = none) → Yl k Q) → Yl (qbt k b fresh fuel next p l) Q
 | [], _, hk => by rw [qbt]; exact hk (fun q h => by cases h) fun q h => by cases h
 | q :: l, hr, hk => by
  have hq := (qgj (hr q (jd ..))).2.1
  rw [qbt]
  refine .cond (fun _ => .pure hQ) fun h1 => .bind (qs4 _ _ _) fun _ _ => .cond (fun _ => .pure hQ) fun _ => ?_
  have h1 := dF h1
  unfold qbM
  rw [qnq fuel q.2.ts oa oa, ja, ja]
  refine .bind (qvp b fresh _) fun r hr' => .cond (fun _ => .pure hQ) fun h2 => qEE hQ b fresh next p fuel hf l (fun x hx => hr x (jf _ hx)) fun k1 k2 => hk (fun x hx => ?_) fun x hx v hv => ?_
  rcases jh.1 hx with rfl | hx
  omega
  exact k1 x hx
  rcases jh.1 hx with rfl | hx
  exact (hr' (nF h2) v (qjM.2 (.inr hv))).2
  exact k2 x hx v hv
theorem qz3 (fuel : Nat) (hf : 1000000000 < fuel) {p : qc} (hp : yC p) (l : List (Int × At)) (b : En) (h : List qm) (next fresh : Int) (hl : ∀ q ∈ l, wtL q.2.ts ≤ 1000000000) (hbl : b.length ≤ 9000000000000000000) (hb : ∀ q ∈ b, wt q.2 ≤ 1000000000) : Yl (qev fuel p l b h next fresh) fun r => r = true → zat l b h next fresh := by
 unfold qev
 refine .bind (qAV l hl) fun r1 h1 => .cond (fun _ => .pure fun h => by cases h) fun e1 => .bind (qEi fuel hf b hbl hb) fun r2 h2 => .cond (fun _ => .pure fun h => by cases h) fun e2 => .bind (qzb h) fun r3 h3 => .cond (fun _ => .pure fun h => by cases h) fun e3 => ?_
 refine .cond (fun _ => .pure fun h => by cases h) fun n1 => .cond (fun _ => .pure fun h => by cases h) fun n2 => .cond (fun _ => .pure fun h => by cases h) fun f1 => .cond (fun _ => .pure fun h => by cases h) fun f2 => ?_
 have n1 := dF n1
 have n2 := dF n2
 have f1 := dF f1
 have f2 := dF f2
 have st := h1 (nF e1)
 have h3 := h3 (nF e3)
 refine qEE (fun h => by cases h) b fresh next p fuel hf l st.a fun k1 k2 => qEF (fun h => by cases h) b fresh fuel hf (qEl l hp (fun h => by cases h) (fun _ => ?_) h) b hb
 exact ⟨st, h2 (nF e2), h3.2, h3.1, by omega, by omega, by omega, by omega, k1, k2⟩
/-! ### layer 7 once more: the solved form's terms are small -/
theorem quk {Q : List (Int × T) × Int → Prop} (hno : Q ([], 13)) (b : List T) (fuel : Nat) (hf : 1500000000 < fuel) {M : Nat} (hM : M ≤ 300000000) (k : List Nd → List Int → BsR) (hk : ∀ g c, StG g c → Kd M g → g.length ≤ 600000000 → Yl (k g c) Q) (hb : ∀ t ∈ b, yM t ∧ wt t ≤ M) :
 ∀ (l : List T) (i : Nat) (g : List Nd) (c : List Int), i + l.length = b.length → (∀ t ∈ l, yM t ∧ wt t ≤ M) → StG g c → Kd M g → zbG g → g.length + wtL l + wtL (b.drop i) ≤ 600000000 → Yl (qO k b fuel l i g c) Q
 | [], i, g, c, _, _, hs, hkd, _, hw => by
  rw [qO]
  exact hk g c hs hkd oa
 | t :: l, i, g, c, hi, ht, hs, hkd, hv, hw => by
  rw [jg] at hi
  obtain ⟨u, hu, hum⟩ := yo (l := b) (i := (i : Int)) oa oa
  have hd : b.drop i = u :: b.drop (i + 1) := by
   rw [qdQ] at hu
   rw [jY oa]
   rw [jq oa] at hu
   rw [Option.some.inj hu]
  have hdrop : wtL (b.drop i) = wt u + wtL (b.drop (i + 1)) := by rw [hd, wtL]
  rw [wtL, hdrop] at hw
  obtain ⟨x, g1, c1, e1, E1, v1, _⟩ := qiF fuel t g c (ht t (jd ..)).1 oa (ht t (jd ..)).2 hs hkd hv oa
  obtain ⟨s1, k1, m1, x0, x1⟩ := E1
  have hl1 := zah.le (M := M) (c := c) (c1 := c1) ⟨s1, k1, m1⟩
  obtain ⟨y, g2, c2, e2, E2, v2, _⟩ := qiF fuel u g1 c1 (hb u hum).1 (by have := (hb u hum).2; omega) (hb u hum).2 s1 k1 v1 oa
  obtain ⟨s2, k2, m2, y0, y1⟩ := E2
  have hl2 := zah.le (M := M) (c := c1) (c1 := c2) ⟨s2, k2, m2⟩
  have hc := qvW c2
  have hcl := s2.len
  obtain ⟨ok, c3, e3, s3, _, _⟩ := qpB (g := g2) oa fuel x y c2 s2 oa oa x0 oa y0 y1
  rw [qO, e1, ja, hu, ja]
  dsimp only
  rw [e2, ja]
  dsimp only
  rw [e3, ja]
  exact .cond (fun _ => .pure hno) fun _ => quk hno b fuel hf hM k hk hb l (i + 1) g2 c3 oa (fun t h => ht t (jf _ h)) s3 k2 v2 oa
theorem qET (fuel : Nat) (hf : 1500000000 < fuel) (a b : List T) (wa : wtL a ≤ 300000000) (wb : wtL b ≤ 300000000) : Yl (qaQ fuel a b) (Ar fun p => wt p.2 ≤ 200) := by
 unfold qaQ
 refine qqb _ (fun x => Yl x (Ar fun p => wt p.2 ≤ 200)) (.pure (.nil _)) a wa fun ha => qqX _ (fun x => Yl x (Ar fun p => wt p.2 ≤ 200)) (.pure (.nil _)) b wb fun hb => ?_
 refine .cond (fun _ => .pure (.nil _)) fun hl => .bind (R := (Ar fun p => wt p.2 ≤ 200)) ?_ fun r hr => .pure hr
 have hl := bF hl
 unfold qcs
 refine quk (.nil _) (M := 300000000) b fuel hf (jk _) _ (fun g c hs hk hg => ?_) (fun t ht => ⟨qhD (hb t ht), by have := qgo ht; omega⟩) a 0 [] [] oa (fun t ht => ⟨qhD (ha t ht), by have := qgo ht; omega⟩) ⟨rfl, fun v hv => by simp at hv, fun v hv => by simp at hv, fun q hq => by simp at hq⟩ (fun q hq => by simp at hq) (fun q hq => by simp at hq) oe
 obtain ⟨m, ok, e, hok⟩ := qqP (M := 300000000) oa oa hs hk fuel oa
 rw [e, ja]
 refine .cond (fun _ => .pure (.nil _)) fun h => ?_
 exact qqv (M := 300000000) oa hs fuel oa (m, ok) (hok (nF h)) (fun p => wt p.2 ≤ 200) (fun i q v t hq hqk hv ht hw => hw) fuel 0 [] oa oa og (fun p hp => by cases hp)
/-! ### layer 10 -/
theorem qzP (k : List T → List T → Option (List (Int × T) × Int)) : ∀ (b : En) (l m : List T), l.length + b.length ≤ 1000000000 → m.length + b.length ≤ 1000000000 → qb2 k b l m = k (l ++ b.map fun q => T.mk 1 q.1 ⟨#[]⟩ []) (m ++ b.map fun q => q.2)
 | [], l, m, _, _ => by rw [qb2]; simp
 | q :: b, l, m, hl, hm => by
  rw [jg] at hl hm
  rw [qb2, qf9 oa (n := b.length) oa, ja, qf9 oa (n := b.length) oa, ja, qzP k b _ _ (by rw [je, jp]; omega) (by rw [je, jp]; omega)]
  simp
theorem qyN (fuel : Nat) (b : En) (s t : T) (hb : b.length ≤ 100000000) : qe0 fuel b s t = (qaQ fuel (s :: b.map fun q => T.mk 1 q.1 ⟨#[]⟩ []) (t :: b.map fun q => q.2)).bind fun r => some (r.1, r.2) := by
 unfold qe0
 rw [qzP _ b [s] [t] oe oe]
 rfl
theorem qtE : ∀ b : En, wtL (b.map fun q => T.mk 1 q.1 ⟨#[]⟩ []) = b.length
 | [] => rfl
 | q :: b => by rw [jm, wtL, qtE b, wt, wtL, jg]; omega
theorem qqe : ∀ b : En, (∀ q ∈ b, wt q.2 ≤ 200) → wtL (b.map fun q => q.2) ≤ 200 * b.length
 | [], _ => by simp [wtL]
 | q :: b, h => by
  have h1 := h q (jd ..)
  have h2 := qqe b fun x hx => h x (jf _ hx)
  rw [jm, wtL, jg]
  omega
theorem qpG (b : En) : ∀ (c : En) (out : List Int), out.length + c.length ≤ 1000000000 → Yl (qa8 (fun o => some o) b c out) fun _ => True
 | [], out, _ => by rw [qa8]; exact .pure trivial
 | q :: c, out, h => by
  rw [jg] at h
  rw [qa8, qn3, ja]
  refine .cond (fun _ => ?_) fun _ => qpG b c out oa
  rw [qf9 oa (n := c.length) oa, ja]
  exact qpG b c _ (by rw [je, jp]; omega)
theorem qtP (fuel : Nat) (hf : 1500000000 < fuel) {b : En} (hb : zbl b) {s t : T} (hs : wt s ≤ 1000000) (ht : wt t ≤ 1000000) : Yl (qdT fuel b s t) fun r => r = true → zN s = true ∧ zN t = true := by
 have hl := hb.len
 unfold qdT
 refine .bind (qEi fuel oa b oa fun q hq => by have := (qhB (hb.t q hq)).2; omega) fun r hr => .cond (fun _ => ?_) fun _ => .pure fun h => by cases h
 rw [qji s oa, ja]
 refine .cond (fun h1 => ?_) fun _ => .pure fun h => by cases h
 rw [qji t oa, ja]
 exact .pure fun h2 => ⟨h1, h2⟩
structure Gud (b c : En) : Prop where
 w : ∀ q ∈ c, wt q.2 ≤ 200
 z : ∀ v, zt b v = none → gz (zt c) v = 1
 l : c.length ≤ 1000000000
theorem Gud.self {b : En} (hb : zbl b) : Gud b b := ⟨fun q hq => (qhB (hb.t q hq)).2, fun v hv => by unfold gz; rw [hv]; rfl, by have := hb.len; omega⟩
mutual
theorem qyT {θ θ' : Int → T} : ∀ t : T, zM t = true → (∀ v ∈ yh t, θ v = θ' v) → thT θ t = thT θ' t
 | .mk k i s ar, h, hv => by
  by_cases h1 : k = 1
  subst h1
  rw [qrz θ rfl, qrz θ' rfl]
  exact hv _ (by rw [qst (t := .mk 1 i s ar) rfl]; exact jn.2 rfl)
  rw [qs9 θ (t := .mk k i s ar) h1, qs9 θ' (t := .mk k i s ar) h1]
  by_cases h2 : k = 2
  subst h2
  rw [qnn rfl, jj] at h
  show T.mk 2 i s (thL θ ar) = T.mk 2 i s (thL θ' ar)
  rw [qxl ar h.2 fun v hv' => hv v (by rw [qsN (t := .mk 2 i s ar) rfl]; exact hv')]
  have h0 : ar.length = 0 := by
   by_cases e : k = 0
   subst e
   rw [qnY rfl] at h
   exact (of_decide_eq_true h).2.2.2
   rw [qoP (t := .mk k i s ar) e h1 h2] at h
   cases h
  show T.mk k i s (thL θ ar) = T.mk k i s (thL θ' ar)
  rw [jA h0, thL, thL]
theorem qxl {θ θ' : Int → T} : ∀ l : List T, zL l = true → (∀ v ∈ zu l, θ v = θ' v) → thL θ l = thL θ' l
 | [], _, _ => by rw [thL, thL]
 | t :: l, h, hv => by
  rw [zL, jj] at h
  rw [thL, thL, qyT t h.1 fun v hv' => hv v (by rw [zu]; exact jr _ hv'), qxl l h.2 fun v hv' => hv v (by rw [zu]; exact jz _ hv')]
end
mutual
theorem qzf (θ : Int → T) : ∀ t : T, zp t ≤ zp (thT θ t)
 | .mk k i s ar => by
  by_cases h1 : k = 1
  rw [qjL (t := .mk k i s ar) (show k ≠ 2 by omega)]
  exact qpL _
  rw [qs9 θ (t := .mk k i s ar) h1]
  by_cases h2 : k = 2
  rw [qn5 (t := .mk k i s ar) h2, qn5 (t := T.mk (T.mk k i s ar).k _ _ _) h2]
  have := qw8 θ ar
  show 1 + zq ar ≤ 1 + zq (thL θ ar)
  omega
  rw [qjL (t := .mk k i s ar) h2]
  exact qpL _
theorem qw8 (θ : Int → T) : ∀ l : List T, zq l ≤ zq (thL θ l)
 | [] => by rw [thL]; exact jk _
 | t :: l => by
  have := qzf θ t
  have := qw8 θ l
  rw [thL, zq, zq]
  omega
end
theorem qBx {t : T} (h : zM t = true) (hk : t.k = 0) : t = .mk 0 t.i ⟨#[]⟩ [] := by
 rw [qnY hk] at h
 have h := of_decide_eq_true h
 rw [← qyA t, hk]
 show T.mk 0 t.i t.s t.ar = T.mk 0 t.i ⟨#[]⟩ []
 rw [jA h.2.2.2, show t.s = ⟨#[]⟩ from qnK (h.2.2.1.trans (by rw [Lib.toList_data]))]
theorem qEL {b : En} (hb : zbl b) (σ : Int → T) (hσ : ∀ v, zp (σ v) = 1) {c : En} (h : ∀ p ∈ c, thT σ ((zt b p.1).getD (T.mk 1 p.1 ⟨#[]⟩ [])) = thT (fun v => thT σ ((zt b v).getD (T.mk 1 v ⟨#[]⟩ []))) p.2 ∧ wt p.2 ≤ 200) (hl : c.length ≤ 1000000000) : Gud b c := by
 refine ⟨fun q hq => (h q hq).2, fun v hv => ?_, hl⟩
 unfold gz
 cases hc : zt c v with
 | none => rfl
 | some u =>
  have e := (h (v, u) (qv2 hc)).1
  dsimp only at e
  rw [hv] at e
  have e1 : thT σ ((none : Option T).getD (T.mk 1 v ⟨#[]⟩ [])) = σ v := qrz σ rfl
  rw [e1] at e
  have h1 := qzf (fun v => thT σ ((zt b v).getD (T.mk 1 v ⟨#[]⟩ []))) u
  rw [← e, hσ] at h1
  have := qpL u
  show zp u = 1
  omega
theorem qEs {b : En} (hb : zbl b) (σ : Int → T) : thL (fun v => thT σ ((zt b v).getD (T.mk 1 v ⟨#[]⟩ []))) (b.map fun q => T.mk 1 q.1 ⟨#[]⟩ []) = thL (fun v => thT σ ((zt b v).getD (T.mk 1 v ⟨#[]⟩ []))) (b.map fun q => q.2) := by
 rw [qlc, qlc, jI, jI]
 refine List.map_congr_left fun q hq => ?_
 show thT _ (T.mk 1 q.1 ⟨#[]⟩ []) = thT _ q.2
 rw [qrz _ rfl]
 show thT σ ((zt b q.1).getD _) = _
 rw [qxA hb.s q hq]
 refine (qyT q.2 (qhB (hb.t q hq)).1 fun v hv => ?_).symm
 rw [hb.f q hq v hv]
 exact qrz σ rfl
theorem qBG (fuel : Nat) (hf : 1500000000 < fuel) {b : En} (hb : zbl b) (s : T) (hs : wt s ≤ 1000000) (hfree : s.k = 1 → zt b s.i = none) (n : Int) : Yl (qcY fuel b s (T.mk 0 n ⟨#[]⟩ [])) fun r => r.2.2 = 0 → Gud b r.1 := by
 have hl := hb.len
 have hbw : ∀ q ∈ b, wt q.2 ≤ 200 := fun q hq => (qhB (hb.t q hq)).2
 have w1 := qtE b
 have w2 := qqe b hbw
 have wn : wt (T.mk 0 n ⟨#[]⟩ []) = 1 := by rw [wt, wtL]
 have wa : wtL (s :: b.map fun q => T.mk 1 q.1 ⟨#[]⟩ []) ≤ 300000000 := by rw [wtL]; omega
 have wb : wtL (T.mk 0 n ⟨#[]⟩ [] :: b.map fun q => q.2) ≤ 300000000 := by rw [wtL]; omega
 unfold qcY
 refine .bind (qtP fuel hf hb hs oa) fun r hr => .cond (fun _ => .pure fun h => absurd h (show ¬ (2 : Int) = 0 by omega)) fun h => ?_
 obtain ⟨hrs, _⟩ := hr (nF h)
 have hsf := (qhB hrs).1
 rw [qyN fuel b s _ oa]
 have fin : ∀ σ : Int → T, (∀ v, zp (σ v) = 1) → thT (fun v => thT σ ((zt b v).getD (T.mk 1 v ⟨#[]⟩ []))) s = T.mk 0 n ⟨#[]⟩ [] → Yl (((qaQ fuel (s :: b.map fun q => T.mk 1 q.1 ⟨#[]⟩ []) (T.mk 0 n ⟨#[]⟩ [] :: b.map fun q => q.2)).bind fun r => some (r.1, r.2)).bind fun r_3 => (bif (r_3.2 != (0 : Int)) then some ([], [], r_3.2) else ((qd1 b r_3.1).bind fun r_5 => some (r_3.1, r_5, 0)))) fun r => r.2.2 = 0 → Gud b r.1 := fun σ hσ e => by
  refine .bind (R := Ar fun p => thT σ ((zt b p.1).getD (T.mk 1 p.1 ⟨#[]⟩ [])) = thT (fun v => thT σ ((zt b v).getD (T.mk 1 v ⟨#[]⟩ []))) p.2 ∧ wt p.2 ≤ 200) ?_ fun r hr => .cond (fun h1 => .pure fun h2 => absurd h2 (bT h1)) fun _ => ?_
  refine .bind (qD4 (fun v => thT σ ((zt b v).getD (T.mk 1 v ⟨#[]⟩ []))) fuel hf _ _ ?_ wa wb) fun r hr => .pure hr
  rw [thL, thL, e, qEs hb σ, qs9 _ (show (T.mk 0 n ⟨#[]⟩ []).k ≠ 1 by simp [T.k])]
  rfl
  have hlen := hr.2
  unfold qd1
  exact .bind (qpG b r.1 [] oe) fun _ _ => .pure fun _ => qEL hb σ hσ hr.1 hlen
 by_cases h1 : s.k = 1
 refine fin (fun v => if v = s.i then T.mk 0 n ⟨#[]⟩ [] else T.mk 1 v ⟨#[]⟩ []) (fun v => ?_) ?_
 split
 exact qjL (by simp [T.k])
 exact qjL (by simp [T.k])
 rw [qrz _ h1, hfree h1]
 show thT _ (T.mk 1 s.i ⟨#[]⟩ []) = _
 rw [qrz _ rfl]
 exact if_pos rfl
 by_cases h0 : s.k = 0 ∧ s.i = n
 have e := qBx hsf h0.1
 rw [h0.2] at e
 refine fin (fun v => T.mk 1 v ⟨#[]⟩ []) (fun v => qjL (by simp [T.k])) ?_
 rw [e, qs9 _ (by simp [T.k])]
 rfl
 refine .bind (R := fun r => r.2 ≠ 0) (.bind (qzi fuel hf s _ _ _ h1 (by simp [T.k]) ?_ wa wb) fun r hr => .pure hr) fun r hr => .cond (fun h1 => .pure fun h2 => absurd h2 (bT h1)) fun h => absurd (bF h) hr
 show s.k ≠ 0 ∨ s.i ≠ n
 omega
/-! ### layer 10: any two terms -/
theorem qDQ (fuel : Nat) (hf : 1500000000 < fuel) {b : En} (hb : zbl b) (s t : T) (hs : wt s ≤ 1000000) (ht : wt t ≤ 1000000) : Yl (qcY fuel b s t) fun r => r.2.2 = 0 → (∀ q ∈ r.1, wt q.2 ≤ 200) ∧ r.1.length ≤ 1000000000 := by
 have hl := hb.len
 have hbw : ∀ q ∈ b, wt q.2 ≤ 200 := fun q hq => (qhB (hb.t q hq)).2
 have w1 := qtE b
 have w2 := qqe b hbw
 unfold qcY
 refine .bind (qtP fuel hf hb hs ht) fun r hr => .cond (fun _ => .pure fun h => absurd h (show ¬ (2 : Int) = 0 by omega)) fun h => ?_
 rw [qyN fuel b s t oa]
 refine .bind (R := Ar fun p => wt p.2 ≤ 200) (.bind (qET fuel hf _ _ (by rw [wtL]; omega) (by rw [wtL]; omega)) fun r hr => .pure hr) fun r hr => .cond (fun h1 => .pure fun h2 => absurd h2 (bT h1)) fun _ => ?_
 have hlen := hr.2
 unfold qd1
 exact .bind (qpG b r.1 [] oe) fun _ _ => .pure fun _ => hr
theorem qyD (fuel : Nat) (hf : 1500000000 < fuel) {b : En} (hb : zbl b) (s t : T) (hs : wt s ≤ 200) (ht : wt t ≤ 200) (hfree : s.k = 1 → zt b s.i = none) : Yl (qex fuel b s t) fun r => r.2.2 = 0 → Gud b r.1 := by
 have hbw : ∀ q ∈ b, wt q.2 ≤ 200 := fun q hq => (qhB (hb.t q hq)).2
 unfold qex
 refine .bind (qtP fuel hf hb oa oa) fun r hr => .cond (fun _ => .pure fun h => absurd h (show ¬ (2 : Int) = 0 by omega)) fun h => ?_
 rw [qB2 b fuel t oa oa, ja]
 have hw := qDV oa hbw t
 have hw2 : wt t * 200 ≤ 200 * 200 := jM _ ht
 obtain ⟨e, he⟩ := qod fuel (apT b t) oa
 rw [he, ja]
 refine .cond (fun h1 => .pure fun h2 => absurd h2 (bT h1)) fun _ => .bind (qBG fuel hf hb s oa hfree e.1) fun r hr => .pure hr
theorem two {α : Type} {l : List α} (h : l.length = 2) : ∃ a b, l = [a, b] := by
 match l, h with
 | [a, b], _ => exact ⟨a, b, rfl⟩
theorem qBJ {g : Gl} (hg : zy g = true) (h : g.op = 3 ∨ g.op = 4) : ∃ s t, g.ts = [s, t] ∧ wt s ≤ 200 ∧ wt t ≤ 200 := by
 obtain ⟨h1, h2⟩ := qoX oa hg
 have hl : g.ts.length = 2 := by
  unfold yK at h1
  rcases h with h | h <;> (rw [h] at h1; simp at h1; omega)
 obtain ⟨s, t, e⟩ := two hl
 have hw := (qqo h2).2
 rw [e, wtL, wtL, wtL] at hw
 exact ⟨s, t, e, by omega, by omega⟩
theorem qu8 {g : Gl} (hg : zy g = true) : 0 ≤ g.op ∧ g.op ≤ 12 := by
 by_cases h : g.op = 0
 omega
 have h1 := (qoX h hg).1
 unfold yK at h1
 split at h1
 omega
 split at h1
 omega
 split at h1
 omega
 omega
theorem qxP (fuel : Nat) (hf : 1500000000 < fuel) {b : En} (hb : zbl b) (g : Gl) (hg : zy g = true) (h0 : g.op ≠ 0) (h4 : g.op ≤ 4) (hfr : ∀ v ∈ zu g.ts, zt b v = none) : Yl (qd3 fuel b g) fun r => r.2.2 = 0 → ((∀ q ∈ r.1, wt q.2 ≤ 200) ∧ r.1.length ≤ 1000000000) ∧ (g.op ≠ 3 → Gud b r.1) := by
 unfold qd3
 refine .cond (fun _ => .pure fun _ => ⟨⟨(Gud.self hb).w, (Gud.self hb).l⟩, fun _ => .self hb⟩) fun h1 => .cond (fun _ => .pure fun h => absurd h (show ¬ (13 : Int) = 0 by omega)) fun h2 => ?_
 have h1 := eF h1
 have h2 := eF h2
 have hop := qu8 hg
 obtain ⟨s, t, e, hs, ht⟩ := qBJ hg oa
 have g0 : zi g.ts 0 = some s := by rw [e]; rfl
 have g1 : zi g.ts 1 = some t := by rw [e]; rfl
 refine .cond (fun h3 => ?_) fun h3 => ?_
 have h3 := eT h3
 rw [g0, ja, g1, ja]
 exact .bind (qDQ fuel hf hb s t oa oa) fun r hr => .pure fun h => ⟨hr h, fun h => absurd h3 h⟩
 rw [g0, ja, g1, ja]
 refine .bind (qyD fuel hf hb s t hs ht fun hk => hfr s.i ?_) fun r hr => .cond (fun _ => .pure fun h => ⟨⟨(hr h).w, (hr h).l⟩, fun _ => hr h⟩) fun h => .cond (fun h6 => .pure fun h => ?_) fun _ => .pure fun h => absurd h (show ¬ (13 : Int) = 0 by omega)
 rw [e, zu, qst hk]
 exact jr _ (jn.2 rfl)
 have := eT h6
 dsimp only at h
 omega
/-! ### layer 11 -/
theorem qE5 (fuel : Nat) (hf : 1500000000 < fuel) {b : En} (hbw : ∀ q ∈ b, wt q.2 ≤ 200) (known : List Gl) (hk : ∀ g ∈ known, wtL g.ts ≤ 200) (g : Gl) (hg : wtL g.ts ≤ 40000) : Yl (qfx fuel b known g) fun _ => True := by
 unfold qfx
 rw [qq3 b fuel g oa oa, ja]
 have hw := qsK oa hbw g.ts
 have hw2 : wtL g.ts * 200 ≤ 40000 * 200 := jM _ hg
 have main : ∀ l : List Gl, (∀ g ∈ l, wtL g.ts ≤ 200) → Yl (qbY ((qeh fuel ⟨g.op, g.n, apL b g.ts⟩).bind fun r_4 => some r_4) b fuel ⟨g.op, g.n, apL b g.ts⟩ l) fun _ => True := fun l => by
  induction l with
  | nil =>
   intro _
   rw [qbY]
   obtain ⟨r, e⟩ := qBQ fuel hf ⟨g.op, g.n, apL b g.ts⟩ (show wtL (apL b g.ts) ≤ 300000000 by omega)
   rw [e, ja]
   exact .pure trivial
  | cons x l ih =>
   intro h
   have hx := h x (jd ..)
   have hw3 := qsK oa hbw x.ts
   have ih := ih fun y hy => h y (jf _ hy)
   rw [qbY, quO ⟨g.op, g.n, apL b g.ts⟩ (show wtL (apL b g.ts) ≤ 1000000000 by omega), ja]
   refine .cond (fun _ => ?_) fun _ => ih
   rw [qq3 b fuel x oa oa, ja, qx4 ⟨g.op, g.n, apL b g.ts⟩ _ (show wtL (apL b g.ts) ≤ 1000000000 by omega), ja]
   exact .cond (fun _ => .pure trivial) fun _ => ih
 exact main known hk
/-! ### layer 23: the heads of a rule and constraints -/
theorem qxd (g : Int → Option T) : ∀ (ps ts l : List T), vL ps ts = some l → (∀ q ∈ (zu ps).zip l, ∃ u, g q.1 = some u ∧ zp u = zp q.2) → ts.map zp = ps.map (szT (gz g))
 | [], [], l, h, hq => rfl
 | p :: ps, t :: ts, l, h, hq => by
  rw [vL] at h
  cases ha : vT p t with
  | none =>
   rw [ha] at h
   cases h
  | some a =>
   cases hb : vL ps ts with
   | none =>
    rw [ha, hb] at h
    cases h
   | some b =>
    rw [ha, hb] at h
    obtain rfl := Option.some.inj h
    have hl := qwm p t a ha
    rw [zu, List.zip_append hl.symm] at hq
    rw [jm, jm, qzj g p t a ha fun q h => hq q (jr _ h), qxd g ps ts b hb fun q h => hq q (jz _ h)]
 | [], _ :: _, l, h, _ => by
  rw [vL] at h
  cases h
 | _ :: _, [], l, h, _ => by
  rw [vL] at h
  cases h
theorem qy8 {f g : Int → Option T} {ps ts : List T} (h : mtc f (zu ps) (vL ps ts) = some g) : ts.map zp = ps.map (szT (gz g)) := by
 unfold mtc at h
 cases hv : vL ps ts with
 | none =>
  rw [hv] at h
  cases h
 | some l =>
  rw [hv, ja] at h
  exact qxd g ps ts l hv (qpQ _ f g h).2
theorem qAI : ∀ (l : List (Int × T)) (f g : Int → Option T), rn f l = some g → ∀ v, g v ≠ none → f v ≠ none ∨ v ∈ l.map (·.1)
 | [], f, g, h, v, hv => by
  rw [rn] at h
  cases h
  exact .inl hv
 | (x, u) :: l, f, g, h, v, hv => by
  cases hf : f x with
  | none =>
   rw [qqL hf] at h
   rcases qAI l _ g h v hv with h1 | h1
   unfold upd at h1
   by_cases e : v = x
   exact .inr (by rw [e]; simp)
   rw [if_neg e] at h1
   exact .inl h1
   exact .inr (jf _ h1)
  | some w =>
   rw [qp2 hf] at h
   split at h
   rcases qAI l f g h v hv with h1 | h1
   exact .inl h1
   exact .inr (jf _ h1)
   cases h
theorem qC1 {f g : Int → Option T} {o : List Int} {l : Option (List T)} (h : mtc f o l = some g) (v : Int) (hv : g v ≠ none) : f v ≠ none ∨ v ∈ o := by
 unfold mtc at h
 cases l with
 | none => cases h
 | some l =>
  rw [ja] at h
  refine (qAI _ f g h v hv).imp id fun h => ?_
  obtain ⟨q, hq, rfl⟩ := jx.1 h
  exact (List.of_mem_zip hq).1
def Fit1 (l : List (Int × At)) (env : En) (h : At) (i : Int) : Prop := ∃ a, (i, a) ∈ l ∧ h.n = a.n ∧ a.ts.map zp = h.ts.map (szT (gz (zt env))) ∧ ∀ v ∈ zu h.ts, (zt env v).isSome = true
def hm (l : List (Int × At)) (env : En) : List At → List Int → Prop
 | [], [] => True
 | h :: hs, i :: is => Fit1 l env h i ∧ hm l env hs is
 | [], _ :: _ => False
 | _ :: _, [] => False
theorem qCu {f g : Int → Nat} : ∀ l : List T, (∀ v ∈ zu l, f v = g v) → l.map (szT f) = l.map (szT g)
 | [], _ => rfl
 | t :: l, h => by
  rw [jm, jm, qsU t fun v hv => h v (by rw [zu]; exact jr _ hv), qCu l fun v hv => h v (by rw [zu]; exact jz _ hv)]
theorem Fit1.more {l : List (Int × At)} {env env' : En} (he : ∀ v u, zt env v = some u → zt env' v = some u) {h : At} {i : Int} (k : Fit1 l env h i) : Fit1 l env' h i := by
 obtain ⟨a, h1, h2, h3, h4⟩ := k
 refine ⟨a, h1, h2, ?_, fun v hv => ?_⟩
 rw [h3]
 refine qCu _ fun v hv => ?_
 obtain ⟨u, hu⟩ := Option.isSome_iff_exists.1 (h4 v hv)
 unfold gz
 rw [hu, he v u hu]
 obtain ⟨u, hu⟩ := Option.isSome_iff_exists.1 (h4 v hv)
 rw [he v u hu]
 rfl
theorem qAs {l : List (Int × At)} {env env' : En} (he : ∀ v u, zt env v = some u → zt env' v = some u) : ∀ (hs : List At) (is : List Int), hm l env hs is → hm l env' hs is
 | [], [], _ => trivial
 | h :: hs, i :: is, k => ⟨k.1.more he, qAs he hs is k.2⟩
 | [], _ :: _, k => k.elim
 | _ :: _, [], k => k.elim
theorem qzK {l : List (Int × At)} {env : En} {h : At} {i : Int} (k : Fit1 l env h i) : ∀ (hs : List At) (is : List Int), hm l env hs is → hm l env (hs ++ [h]) (is ++ [i])
 | [], [], _ => ⟨k, trivial⟩
 | _ :: hs, _ :: is, k' => ⟨k'.1, qzK k hs is k'.2⟩
 | [], _ :: _, k => k.elim
 | _ :: _, [], k => k.elim
theorem qCk {Q : En × Bool → Prop} (hQ : Q ([], false)) {K : Option (En × Bool)} (ids : List Int) (i : Nat) (x : Int) (hx : zi ids (i : Int) = some x) : ∀ (n m : Nat), m + n ≤ ids.length → ((∀ j, m ≤ j → j < m + n → ids[j]? ≠ some x) → Yl K Q) → Yl (qcf K i ids n (m : Int)) Q
 | 0, m, _, hk => by
  rw [qcf]
  exact hk fun j h1 h2 => by omega
 | n + 1, m, hl, hk => by
  obtain ⟨y, hy, _⟩ := yo (l := ids) (i := (m : Int)) oa oa
  rw [qcf, hy, ja, hx, ja]
  refine .cond (fun _ => .pure hQ) fun h => ?_
  have h := eF h
  have := qCk hQ ids i x hx n (m + 1) oa (K := K) fun hj => hk fun j h1 h2 => by
   by_cases e : j = m
   subst e
   rw [qdQ] at hy
   rw [hy]
   exact fun h' => h (Option.some.inj h')
   exact hj j oa oa
  rw [show (m : Int) + 1 = ((m + 1 : Nat) : Int) by omega]
  exact this
theorem qCb {Q : En × Bool → Prop} (hQ : Q ([], false)) (fuel : Nat) (hf : 1000000000 < fuel) {l : List (Int × At)} (hst : ∀ q ∈ l, wtL q.2.ts ≤ 200) (ids : List Int) (k : En → Option (En × Bool)) (all : List At) (hall : ∀ a ∈ all, zA a = true) (hlen : ids.length = all.length) (h4 : all.length ≤ 4) (hk : ∀ env, hm l env all ids → ids.Nodup → EnW 200 env → (∀ v, zt env v ≠ none → ∃ h ∈ all, v ∈ zu h.ts) → Yl (k env) Q) :
 ∀ (hs ds : List At) (env : En), all = ds ++ hs → hm l env ds (ids.take ds.length) → (ids.take ds.length).Nodup → EnW 200 env → (∀ v, zt env v ≠ none → ∃ h ∈ ds, v ∈ zu h.ts) → env.length ≤ 200 * ds.length → Yl (qck k fuel ids l hs env ds.length) Q
 | [], ds, env, he, h1, h2, h3, h3d, _ => by
  rw [qck]
  rw [js] at he
  subst he
  rw [jZ oa] at h1 h2
  exact hk env h1 h2 h3 h3d
 | h :: hs, ds, env, he, h1, h2, h3, h3d, hel => by
  have hl : all.length = ds.length + (hs.length + 1) := by rw [he, je, jg]
  obtain ⟨x, hx, _⟩ := yo (l := ids) (i := (ds.length : Int)) oa oa
  have hx' := hx
  rw [qdQ] at hx'
  have hh := (qgj (hall h (by rw [he]; simp))).2.1
  have hocc := qqu h.ts
  rw [qck, show ((ds.length : Int) - 0 : Int).toNat = ds.length by omega, hx, ja]
  refine qCk hQ ids ds.length x hx ds.length 0 oa fun hne => ?_
  refine .bind (qz6 l x) fun r hr => .cond (fun _ => .pure hQ) fun hfd => ?_
  have hmem := hr (nF hfd)
  have ha := hst _ hmem
  dsimp only at ha
  obtain ⟨env', ok, e, hres⟩ := qDF (W := 200) oa fuel h r.1 env oa oa ha h3 oa
  rw [e, ja]
  refine .cond (fun _ => .pure hQ) fun hok => ?_
  have hok := nF hok
  rcases hres with ⟨h5, _⟩ | ⟨_, h6, h7, h8⟩
  dsimp only at hok
  rw [h5] at hok
  cases hok
  have hn : h.n = r.1.n := by
   by_cases hn : h.n = r.1.n
   exact hn
   rw [if_neg hn] at h6
   cases h6
  rw [if_pos hn] at h6
  obtain ⟨b1, b2, _⟩ := qAZ h6
  have hsz := qy8 h6
  have := qCb hQ fuel hf hst ids k all hall hlen h4 hk hs (ds ++ [h]) env' (by rw [he, ji]; rfl) (by
   rw [je, jp, List.take_add_one, hx']
   exact qzK ⟨r.1, hmem, hn, hsz, b2⟩ _ _ (qAs b1 _ _ h1)) (by
   rw [je, jp, List.take_add_one, hx']
   refine jH.2 ⟨h2, by simp, fun a ha b hb hab => ?_⟩
   simp only [Option.toList_some, jn] at hb
   subst hb
   subst hab
   obtain ⟨j, hj, e⟩ := List.getElem_of_mem ha
   rw [vB] at hj
   refine hne j (jc _) oa ?_
   rw [List.getElem_take] at e
   rw [← e]
   exact jq _) h8 (fun v hv => by
   rcases qC1 h6 v hv with h9 | h9
   obtain ⟨h', hm', ho⟩ := h3d v h9
   exact ⟨h', jr _ hm', ho⟩
   exact ⟨h, by simp, h9⟩) (by rw [je, jp]; omega)
  rw [je, jp] at this
  exact this
theorem qCF (l : List qm) (f : qm) : Yl (qdJ l f) fun _ => True := by
 unfold qdJ
 induction l with
 | nil => rw [qcE]; exact .pure trivial
 | cons x l ih =>
  rw [qcE]
  exact .bind (qtt x f) fun _ _ => .cond (fun _ => .pure trivial) fun _ => ih
structure zan (l : List (Int × At)) (r : qr) (ids : List Int) (env : En) : Prop where
 len : ids.length = (r.fi ++ r.ff).length
 fit : hm l env (r.fi ++ r.ff) ids
 nd : ids.Nodup
 w : EnW 200 env
 dom : ∀ v, zt env v ≠ none → ∃ h ∈ r.fi ++ r.ff, v ∈ zu h.ts
theorem qEG (fuel : Nat) (hf : 1500000000 < fuel) {p : qc} (hp : yC p) {l : List (Int × At)} (hst : ∀ q ∈ l, wtL q.2.ts ≤ 200) {b : En} (hbw : ∀ q ∈ b, wt q.2 ≤ 200) (known : List Gl) (hk : ∀ g ∈ known, wtL g.ts ≤ 200) (h : List qm) (rule : Int) (r : qr) (hr : zi p.fd rule = some r) (ids : List Int) : Yl (qa3 fuel p l b known h rule ids) fun e => e.2 = true → zan l r ids e.1 := by
 have hrule := hp.r r (qfM hr)
 have h4 := hrule.h4
 have h4' := h4
 rw [je] at h4'
 unfold qa3
 rw [hr, ja, qnw oa, ja]
 refine .cond (fun _ => .pure fun h => by cases h) fun hlen => ?_
 have hlen := bF hlen
 refine qCb (fun h => by cases h) fuel oa hst ids _ (r.fi ++ r.ff) hrule.a oa h4 (fun env h1 h2 h3 h3d => ?_) _ [] [] rfl (by simp [hm]) og (fun q hq => by cases hq) (fun v hv => absurd rfl hv) og
 have guard : ∀ gs : List Gl, (∀ g ∈ gs, zy g = true) → Yl (qcg ((qa2 r).bind fun r_9 => (bif r_9 then ((qdJ h (⟨rule, ids⟩ : qm)).bind fun r_11 => (bif r_11 then some ([], false) else some (env, true))) else some (env, true))) b env fuel known gs) fun e => e.2 = true → zan l r ids e.1 := fun gs => by
  induction gs with
  | nil =>
   intro _
   rw [qcg, qa2, ja]
   exact .cond (fun _ => .bind (qCF h _) fun _ _ => .cond (fun _ => .pure fun h => by cases h) fun _ => .pure fun _ => ⟨by omega, h1, h2, h3, h3d⟩) fun _ => .pure fun _ => ⟨by omega, h1, h2, h3, h3d⟩
  | cons g gs ih =>
   intro hg
   have hgw := (qhc (hg g (jd ..))).2
   have hw := qwS (W := 200) oa (fun v => qEn oa h3 0 v) g.ts
   have hw2 : wtL g.ts * 200 ≤ 200 * 200 := jM _ hgw
   rw [qcg, qwE env 0 fuel g oa oa, ja]
   exact .bind (qE5 fuel hf hbw known hk _ (show wtL (inL (ef env 0) g.ts) ≤ 40000 by omega)) fun _ _ => .cond (fun _ => .pure fun h => by cases h) fun _ => ih fun x hx => hg x (jf _ hx)
 exact guard r.fy fun g hg => hrule.g g (jr _ hg)
/-! ### choices -/
theorem qC5 {α : Type} {b : Nat} (hb : b ≤ 100) {l : List α} {x : α} {n : Nat} (h : l.length + (n + 1) ≤ 1000000000000) : zF b l [x] = some (l ++ [x]) := by
 refine qk5 ?_ oe
 have : (l.length + [x].length) * b ≤ 1000000000000 * 100 := Nat.mul_le_mul oe hb
 omega
theorem qDC (k : List (List Int) → Option (List (List Int))) (h : At) (q : List Int) (hq : q.length ≤ 100) : ∀ (l : List (Int × At)) (longer : List (List Int)), longer.length + l.length ≤ 900000000000 → ∃ more, qaf k h q l longer = k (longer ++ more) ∧ more.length ≤ l.length ∧ (∀ x ∈ more, x.length = q.length + 1) ∧ ∀ y ∈ l, y.2.n = h.n → y.2.ts.length = h.ts.length → q ++ [y.1] ∈ more
 | [], longer, _ => ⟨[], by rw [qaf, js], jk _, fun x hx => (by cases hx), fun y hy => (by cases hy)⟩
 | y :: l, longer, hl => by
  rw [jg] at hl
  have skip : ¬ (y.2.n = h.n ∧ y.2.ts.length = h.ts.length) → ∃ more, qaf k h q l longer = k (longer ++ more) ∧ more.length ≤ (y :: l).length ∧ (∀ x ∈ more, x.length = q.length + 1) ∧ ∀ z ∈ y :: l, z.2.n = h.n → z.2.ts.length = h.ts.length → q ++ [z.1] ∈ more := fun hn => by
   obtain ⟨more, e, h1, h2, h3⟩ := qDC k h q hq l longer oa
   refine ⟨more, e, by rw [jg]; omega, h2, fun z hz hz1 hz2 => ?_⟩
   rcases jh.1 hz with rfl | hz
   exact absurd ⟨hz1, hz2⟩ hn
   exact h3 z hz hz1 hz2
  rw [qaf]
  by_cases h1 : y.2.n = h.n
  rw [show (y.2.n.toList == h.n.toList) = true by rw [h1]; simp, cond_true]
  by_cases h2 : y.2.ts.length = h.ts.length
  rw [uT (show (y.2.ts.length : Int) = h.ts.length by omega), cond_true, qpw oa oa, ja, qf9 oa (n := 0) oa, ja, qC5 oa (n := l.length) oa, ja]
  obtain ⟨more, e, h3, h4, h5⟩ := qDC k h q hq l (longer ++ [q ++ [y.1]]) (by rw [je, jp]; omega)
  refine ⟨(q ++ [y.1]) :: more, by rw [e, ji]; rfl, by rw [jg, jg]; omega, fun x hx => ?_, fun z hz hz1 hz2 => ?_⟩
  rcases jh.1 hx with rfl | hx
  rw [je, jp]
  exact h4 x hx
  rcases jh.1 hz with rfl | hz
  exact jd ..
  exact jf _ (h5 z hz hz1 hz2)
  rw [uF (show (y.2.ts.length : Int) ≠ h.ts.length by omega), cond_false]
  exact skip fun h => h2 h.2
  rw [show (y.2.n.toList == h.n.toList) = false by
   simp only [beq_eq_false_iff_ne]
   exact fun e => h1 (qnK e), cond_false]
  exact skip fun h => h1 h.1
theorem qEy (k : List (List Int) → Option (List (List Int))) (l : List (Int × At)) (h : At) (m : Nat) (hm : m ≤ 100) : ∀ (lists longer : List (List Int)), (∀ q ∈ lists, q.length = m) → longer.length + lists.length * l.length ≤ 800000000000 → ∃ more, qaK k l h lists longer = k (longer ++ more) ∧ more.length ≤ lists.length * l.length ∧ (∀ x ∈ more, x.length = m + 1) ∧ ∀ q ∈ lists, ∀ y ∈ l, y.2.n = h.n → y.2.ts.length = h.ts.length → q ++ [y.1] ∈ more
 | [], longer, _, _ => ⟨[], by rw [qaK, js], by simp, fun x hx => (by cases hx), fun q hq => (by cases hq)⟩
 | q :: lists, longer, hq, hl => by
  rw [jg, jy, jU] at hl
  have hqm := hq q (jd ..)
  rw [qaK]
  obtain ⟨m1, e1, a1, b1, c1⟩ := qDC (fun longer_30 => qaK k l h lists longer_30) h q oa l longer oa
  obtain ⟨m2, e2, a2, b2, c2⟩ := qEy k l h m hm lists (longer ++ m1) (fun x hx => hq x (jf _ hx)) (by rw [je]; omega)
  refine ⟨m1 ++ m2, by rw [e1, e2, ji], by rw [je, jg, jy, jU]; omega, fun x hx => ?_, fun x hx y hy h1 h2 => ?_⟩
  rcases jl.1 hx with hx | hx
  rw [b1 x hx, hqm]
  exact b2 x hx
  rcases jh.1 hx with rfl | hx
  exact jr _ (c1 y hy h1 h2)
  exact jz _ (c2 x hx y hy h1 h2)
theorem qED {Q : List (List Int) → Prop} {k : List (List Int) → Option (List (List Int))} (l : List (Int × At)) (hl : l.length ≤ 500) (hk : ∀ lists, lists.length ≤ 62500000000 → Yl (k lists) Q) : ∀ (hs : List At) (lists : List (List Int)) (m : Nat), (∀ q ∈ lists, q.length = m) → m + hs.length ≤ 100 → lists.length * 500 ^ hs.length ≤ 62500000000 → Yl (qaM k l hs lists) Q
 | [], lists, m, _, _, h => by
  rw [qaM]
  exact hk lists (by simpa using h)
 | a :: hs, lists, m, hq, hm, h => by
  rw [jg] at hm h
  rw [qaM]
  have h1 : lists.length * l.length ≤ lists.length * 500 := vA _ hl
  have hp : 1 ≤ 500 ^ hs.length := vx og
  have h2 : lists.length * 500 * 500 ^ hs.length ≤ 62500000000 := by
   rw [Nat.pow_succ] at h
   rw [Nat.mul_assoc, Nat.mul_comm 500]
   exact h
  have h3 : lists.length * 500 * 1 ≤ lists.length * 500 * 500 ^ hs.length := vA _ hp
  obtain ⟨more, e, b1, b2, _⟩ := qEy (fun longer_24 => qaM k l hs longer_24) l a m oa lists [] hq oe
  rw [e, jo]
  refine qED l hl hk hs more (m + 1) b2 oa ?_
  have h4 : more.length * 500 ^ hs.length ≤ lists.length * 500 * 500 ^ hs.length := jM _ oa
  omega
theorem qDJ (fuel : Nat) (hf : 1500000000 < fuel) {p : qc} (hp : yC p) {l : List (Int × At)} (hst : ∀ q ∈ l, wtL q.2.ts ≤ 200) {b : En} (hbw : ∀ q ∈ b, wt q.2 ≤ 200) (known : List Gl) (hk : ∀ g ∈ known, wtL g.ts ≤ 200) (h : List qm) (rule : Int) (r : qr) (hr : zi p.fd rule = some r) (k : List (List Int) → Option (List (List Int))) : ∀ (lists out : List (List Int)), out.length + lists.length ≤ 900000000000 → ∃ more, qaJ k b fuel h known l p rule lists out = k (out ++ more) ∧ more.length ≤ lists.length ∧ (∀ x ∈ more, x ∈ lists ∧ ∃ env, qa3 fuel p l b known h rule x = some (env, true) ∧ zan l r x env) ∧ ∀ x ∈ lists, ∀ env, qa3 fuel p l b known h rule x = some (env, true) → x ∈ more
 | [], out, _ => ⟨[], by rw [qaJ, js], jk _, fun x hx => (by cases hx), fun x hx => (by cases hx)⟩
 | q :: lists, out, hl => by
  rw [jg] at hl
  obtain ⟨⟨env, ok⟩, e, he⟩ := qEG fuel hf hp hst hbw known hk h rule r hr q
  rw [qaJ, e, ja]
  cases ok with
  | false =>
   rw [cond_false]
   obtain ⟨more, e1, h1, h2, h3⟩ := qDJ fuel hf hp hst hbw known hk h rule r hr k lists out oa
   refine ⟨more, e1, by rw [jg]; omega, fun x hx => ⟨jf _ (h2 x hx).1, (h2 x hx).2⟩, fun x hx env' he' => ?_⟩
   rcases jh.1 hx with rfl | hx
   rw [e] at he'
   cases he'
   exact h3 x hx env' he'
  | true =>
   rw [cond_true, qC5 oa (n := lists.length) oa, ja]
   obtain ⟨more, e1, h1, h2, h3⟩ := qDJ fuel hf hp hst hbw known hk h rule r hr k lists (out ++ [q]) (by rw [je, jp]; omega)
   refine ⟨q :: more, by rw [e1, ji]; rfl, by rw [jg, jg]; omega, fun x hx => ?_, fun x hx env' he' => ?_⟩
   rcases jh.1 hx with rfl | hx
   exact ⟨jd .., env, e, he rfl⟩
   exact ⟨jf _ (h2 x hx).1, (h2 x hx).2⟩
   rcases jh.1 hx with rfl | hx
   exact jd ..
   exact jf _ (h3 x hx env' he')
theorem qx2 (fuel : Nat) (hf : 1500000000 < fuel) {p : qc} (hp : yC p) {l : List (Int × At)} (hl : l.length ≤ 500) (hst : ∀ q ∈ l, wtL q.2.ts ≤ 200) {b : En} (hbw : ∀ q ∈ b, wt q.2 ≤ 200) (known : List Gl) (hk : ∀ g ∈ known, wtL g.ts ≤ 200) (h : List qm) (rule : Int) (r : qr) (hr : zi p.fd rule = some r) : Yl (qds fuel p l b known h rule) fun out => out.length ≤ 62500000000 ∧ ∀ x ∈ out, ∃ env, qa3 fuel p l b known h rule x = some (env, true) ∧ zan l r x env := by
 have hrule := hp.r r (qfM hr)
 have h4 := hrule.h4
 have h4' := h4
 rw [je] at h4'
 unfold qds
 rw [hr, ja, qnw oa, ja]
 refine qED l hl (fun lists hll => ?_) _ [[]] 0 (fun q hq => by rw [jn.1 hq]; rfl) oa ?_
 obtain ⟨more, e, h1, h2, _⟩ := qDJ fuel hf hp hst hbw known hk h rule r hr (fun out_12 => some out_12) lists [] oe
 rw [e, jo]
 exact .pure ⟨by omega, fun x hx => (h2 x hx).2⟩
 have : 500 ^ (r.fi ++ r.ff).length ≤ 500 ^ 4 := Nat.pow_le_pow_right oa h4
 simp only [jp, jU]
 omega
end
end Go.Proofs.YtamoolpdganckaaGreat
