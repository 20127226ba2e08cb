/-
  Terms as data, and how a list of cells reads as a term or as terms one behind the other.
-/
import Derived.Test.YtcjbageaiafbmaaMem
import Derived.Deep.Slices
import Derived.Deep.Fields
import Derived.ChangeArms
namespace Go.Proofs.Ytcjbageaiafbmaa
open Go.RowKit

/-- A term: its kind, its number, its name, its arguments. -/
inductive T where
  | mk (k i : Int) (s : ByteArray) (ar : List T)

def T.k : T → Int | .mk k _ _ _ => k
def T.i : T → Int | .mk _ i _ _ => i
def T.s : T → ByteArray | .mk _ _ s _ => s
def T.ar : T → List T | .mk _ _ _ ar => ar

def I64 (n : Int) : Prop := -9223372036854775808 ≤ n ∧ n < 9223372036854775808
/-- What a slice's length and capacity, a string's size and the two numbers are bounded by. -/
structure Fit (k i : Int) (s : ByteArray) (n c : Nat) : Prop where
  k : I64 k
  i : I64 i
  s : s.size ≤ 9223372036854775807
  n : n ≤ c
  c : c ≤ 9223372036854775807

mutual
/-- The four cells of a term. -/
def CT (w : World) : T → List Value → Prop
  | .mk k i s ar, cs => ∃ A c xs, cs = [.int .i64 k, .int .i64 i, .string s, .slice A ar.length c] ∧ Fit k i s ar.length c ∧ Rd w A xs ∧ CL w ar xs
/-- The cells of terms, one behind the other. -/
def CL (w : World) : List T → List Value → Prop
  | [], xs => xs = []
  | t :: ts, xs => ∃ cs ys, xs = cs ++ ys ∧ CT w t cs ∧ CL w ts ys
end

/-- A slice value over terms. -/
def SlT (w : World) (ts : List T) (v : Value) : Prop := ∃ A c xs, v = .slice A ts.length c ∧ ts.length ≤ c ∧ c ≤ 9223372036854775807 ∧ Rd w A xs ∧ CL w ts xs
/-- A term by value. -/
def VT (w : World) (t : T) (v : Value) : Prop := ∃ cs, v = .agg cs.toArray ∧ CT w t cs

mutual
theorem CT.ext {w w' : World} (e : Ext w w') : ∀ {t : T} {cs : List Value}, CT w t cs → CT w' t cs
  | .mk k i s ar, cs, h => by
    simp only [CT] at h ⊢
    obtain ⟨A, c, xs, h1, h2, h3, h4⟩ := h
    exact ⟨A, c, xs, h1, h2, h3.ext e, CL.ext e h4⟩
theorem CL.ext {w w' : World} (e : Ext w w') : ∀ {ts : List T} {xs : List Value}, CL w ts xs → CL w' ts xs
  | [], xs, h => by simpa only [CL] using h
  | t :: ts, xs, h => by
    simp only [CL] at h ⊢
    obtain ⟨cs, ys, h1, h2, h3⟩ := h
    exact ⟨cs, ys, h1, CT.ext e h2, CL.ext e h3⟩
end

theorem CT.len {w : World} {t : T} {cs : List Value} (h : CT w t cs) : cs.length = 4 := by
  cases t
  simp only [CT] at h
  obtain ⟨A, c, xs, rfl, _⟩ := h
  rfl
theorem CT.one {w : World} {t : T} {cs : List Value} (h : CT w t cs) : ∀ u ∈ cs, u.oneCell' = true := by
  cases t
  simp only [CT] at h
  obtain ⟨A, c, xs, rfl, _⟩ := h
  intro u hu
  simp at hu
  rcases hu with rfl | rfl | rfl | rfl <;> rfl
theorem CL.len {w : World} : ∀ {ts : List T} {xs : List Value}, CL w ts xs → xs.length = ts.length * 4
  | [], xs, h => by simp only [CL] at h; simp [h]
  | t :: ts, xs, h => by
    simp only [CL] at h
    obtain ⟨cs, ys, rfl, h2, h3⟩ := h
    rw [List.length_append, h2.len, CL.len h3, List.length_cons]
    omega
theorem CL.one {w : World} : ∀ {ts : List T} {xs : List Value}, CL w ts xs → ∀ u ∈ xs, u.oneCell' = true
  | [], xs, h => by simp only [CL] at h; simp [h]
  | t :: ts, xs, h => by
    simp only [CL] at h
    obtain ⟨cs, ys, rfl, h2, h3⟩ := h
    intro u hu
    rcases List.mem_append.1 hu with hu | hu
    · exact h2.one u hu
    · exact CL.one h3 u hu
theorem CL.nil (w : World) : CL w [] [] := by simp only [CL]
theorem CL.cons {w : World} {t : T} {ts : List T} {cs ys : List Value} (h1 : CT w t cs) (h2 : CL w ts ys) : CL w (t :: ts) (cs ++ ys) := by
  simp only [CL]; exact ⟨cs, ys, rfl, h1, h2⟩
theorem CL.single {w : World} {t : T} {cs : List Value} (h1 : CT w t cs) : CL w [t] cs := by
  simpa using CL.cons h1 (CL.nil w)
theorem CL.app {w : World} : ∀ {ts us : List T} {xs ys : List Value}, CL w ts xs → CL w us ys → CL w (ts ++ us) (xs ++ ys)
  | [], us, xs, ys, h, k => by simp only [CL] at h; subst h; simpa using k
  | t :: ts, us, xs, ys, h, k => by
    simp only [CL] at h
    obtain ⟨cs, zs, rfl, h2, h3⟩ := h
    rw [List.cons_append, List.append_assoc]
    exact CL.cons h2 (CL.app h3 k)
/-- One of the terms. -/
theorem CL.get {w : World} : ∀ {ts : List T} {xs : List Value} {i : Nat} {t : T}, CL w ts xs → ts[i]? = some t → ∃ cs, CT w t cs ∧ ∀ j, j < 4 → xs[i * 4 + j]? = cs[j]?
  | [], xs, i, t, h, hi => by simp at hi
  | u :: ts, xs, 0, t, h, hi => by
    simp only [CL] at h
    obtain ⟨cs, ys, rfl, h2, h3⟩ := h
    simp at hi
    subst hi
    refine ⟨cs, h2, fun j hj => ?_⟩
    rw [Nat.zero_mul, Nat.zero_add, List.getElem?_append_left (by rw [h2.len]; omega)]
  | u :: ts, xs, i + 1, t, h, hi => by
    simp only [CL] at h
    obtain ⟨cs, ys, rfl, h2, h3⟩ := h
    simp at hi
    obtain ⟨ds, h4, h5⟩ := CL.get h3 hi
    refine ⟨ds, h4, fun j hj => ?_⟩
    rw [List.getElem?_append_right (by rw [h2.len]; omega), h2.len, ← h5 j hj]
    congr 1
    omega
theorem CL.drop {w : World} : ∀ {ts : List T} {xs : List Value} (k : Nat), CL w ts xs → CL w (ts.drop k) (xs.drop (k * 4))
  | ts, xs, 0, h => by simpa using h
  | [], xs, k + 1, h => by simp only [CL] at h; subst h; simp only [List.drop_nil]; exact CL.nil w
  | t :: ts, xs, k + 1, h => by
    simp only [CL] at h
    obtain ⟨cs, ys, rfl, h2, h3⟩ := h
    have e : (k + 1) * 4 = cs.length + k * 4 := by rw [h2.len]; omega
    rw [e, List.drop_succ_cons, List.drop_length_add_append]
    exact CL.drop k h3
theorem CL.take {w : World} : ∀ {ts : List T} {xs : List Value} (k : Nat), CL w ts xs → CL w (ts.take k) (xs.take (k * 4))
  | ts, xs, 0, h => by simpa using CL.nil w
  | [], xs, k + 1, h => by simp only [CL] at h; subst h; simp only [List.take_nil]; exact CL.nil w
  | t :: ts, xs, k + 1, h => by
    simp only [CL] at h
    obtain ⟨cs, ys, rfl, h2, h3⟩ := h
    have e : (k + 1) * 4 = cs.length + k * 4 := by rw [h2.len]; omega
    rw [e, List.take_length_add_append, List.take_succ_cons]
    exact CL.cons h2 (CL.take k h3)

theorem SlT.ext {w w' : World} {ts : List T} {v : Value} (h : SlT w ts v) (e : Ext w w') : SlT w' ts v := by
  obtain ⟨A, c, xs, h1, h2, h3, h4, h5⟩ := h
  exact ⟨A, c, xs, h1, h2, h3, h4.ext e, h5.ext e⟩
theorem VT.ext {w w' : World} {t : T} {v : Value} (h : VT w t v) (e : Ext w w') : VT w' t v := by
  obtain ⟨cs, h1, h2⟩ := h
  exact ⟨cs, h1, h2.ext e⟩

/-- A term by value, opened: its four parts. -/
theorem VT.open_ {w : World} {t : T} {v : Value} (h : VT w t v) : ∃ sl, v = .agg #[.int .i64 t.k, .int .i64 t.i, .string t.s, sl] ∧ SlT w t.ar sl ∧ I64 t.k ∧ I64 t.i ∧ t.s.size ≤ 9223372036854775807 := by
  obtain ⟨cs, rfl, h⟩ := h
  cases t
  simp only [CT] at h
  obtain ⟨A, c, xs, rfl, hf, h3, h4⟩ := h
  exact ⟨_, rfl, ⟨A, c, xs, rfl, hf.n, hf.c, h3, h4⟩, hf.k, hf.i, hf.s⟩
theorem VT.mk {w : World} {k i : Int} {s : ByteArray} {ar : List T} {sl : Value} (h : SlT w ar sl) (hk : I64 k) (hi : I64 i) (hs : s.size ≤ 9223372036854775807) : VT w (.mk k i s ar) (.agg #[.int .i64 k, .int .i64 i, .string s, sl]) := by
  obtain ⟨A, c, xs, rfl, h2, h3, h4, h5⟩ := h
  refine ⟨[.int .i64 k, .int .i64 i, .string s, .slice A ar.length c], rfl, ?_⟩
  simp only [CT]
  exact ⟨A, c, xs, rfl, ⟨hk, hi, hs, h2, h3⟩, h4, h5⟩
theorem VT.ct {w : World} {t : T} {cs : Array Value} (h : VT w t (.agg cs)) : CT w t cs.toList := by
  obtain ⟨ds, h1, h2⟩ := h
  injection h1 with h1
  subst h1
  simpa using h2

theorem cell_spot {w : World} {a : Addr} {v : Value} (h : w.cell? a = some v) : a.spot = none := by
  unfold World.cell? at h
  split at h
  · split at h
    · cases h
    · rename_i hs; simpa using hs
  · cases h
theorem add_flat (b o k : Nat) : (⟨b, o, none⟩ : Addr).add k = ⟨b, o + k, none⟩ := by
  unfold Addr.add; split
  · rename_i h; simp [h]
  · rfl

/-- The cells of one of the terms that a slice reads, and the term by value. -/
theorem SlT.at_ {w : World} {ts : List T} {A : Option Addr} {n c : Nat} (h : SlT w ts (.slice A n c)) {i : Nat} {t : T} (hi : ts[i]? = some t) :
    ∃ b o sl, A = some ⟨b, o, none⟩ ∧ w.cell? ⟨b, o + i * 4, none⟩ = some (.int .i64 t.k) ∧ w.cell? ⟨b, o + i * 4 + 1, none⟩ = some (.int .i64 t.i) ∧ w.cell? ⟨b, o + i * 4 + 2, none⟩ = some (.string t.s) ∧ w.cell? ⟨b, o + i * 4 + 3, none⟩ = some sl ∧
      SlT w t.ar sl ∧ VT w t (.agg #[.int .i64 t.k, .int .i64 t.i, .string t.s, sl]) := by
  obtain ⟨A', c', xs, h1, h2, h3, h4, h5⟩ := h
  injection h1 with h1 _ _
  subst h1
  obtain ⟨cs, hc, hx⟩ := h5.get hi
  have hv : VT w t (.agg cs.toArray) := ⟨cs, rfl, hc⟩
  obtain ⟨sl, e, hs, _⟩ := hv.open_
  injection e with e
  have e' : cs = [.int .i64 t.k, .int .i64 t.i, .string t.s, sl] := by simpa using e
  subst e'
  have x0 : xs[i * 4 + 0]? = some (.int .i64 t.k) := by rw [hx 0 (by omega)]; rfl
  have x1 : xs[i * 4 + 1]? = some (.int .i64 t.i) := by rw [hx 1 (by omega)]; rfl
  have x2 : xs[i * 4 + 2]? = some (.string t.s) := by rw [hx 2 (by omega)]; rfl
  have x3 : xs[i * 4 + 3]? = some sl := by rw [hx 3 (by omega)]; rfl
  rcases h4 with rfl | ⟨ad, rfl, hcell⟩
  · simp at x0
  · have hl : 0 < xs.length := by
      have := (List.getElem?_eq_some_iff.1 x0).1
      omega
    have hsp : ad.spot = none := by
      have h0 := hcell 0 _ (List.getElem?_eq_getElem hl)
      have := cell_spot h0
      simpa [Addr.add] using this
    obtain ⟨b, o, sp⟩ := ad
    simp only at hsp
    subst hsp
    have g := fun j u h => hcell (i * 4 + j) u h
    simp only [add_flat, ← Nat.add_assoc] at g
    exact ⟨b, o, sl, rfl, g 0 _ x0, g 1 _ x1, g 2 _ x2, g 3 _ x3, hs, hv⟩
end Go.Proofs.Ytcjbageaiafbmaa
