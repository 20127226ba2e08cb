/-
  Layouts: how a datum lies in so many cells, lists of such data one behind the other, slices of them. Plain lemmas; no condition.
-/
import Derived.Test.YtcjbageaiafbmaaTerm
namespace Go.Proofs.Ytcjbageaiafbmaa
open Go.ChangeShapes Go.WideShapes Go.RowKit

/-- How a datum lies in n cells. -/
structure Lay (α : Type) where
  C : World → α → List Value → Prop
  n : Nat
  pos : 0 < n
  ext : ∀ {w w' : World} {a : α} {cs : List Value}, C w a cs → Ext w w' → C w' a cs
  len : ∀ {w : World} {a : α} {cs : List Value}, C w a cs → cs.length = n
  one : ∀ {w : World} {a : α} {cs : List Value}, C w a cs → ∀ u ∈ cs, u.oneCell' = true

namespace Lay
variable {α : Type} (L : Lay α)
/-- One behind the other. -/
def Ls (w : World) : List α → List Value → Prop
  | [], xs => xs = []
  | a :: l, xs => ∃ cs ys, xs = cs ++ ys ∧ L.C w a cs ∧ Ls w l ys
/-- A slice value over such data. -/
def Sl (w : World) (l : List α) (v : Value) : Prop := ∃ A c xs, v = .slice A l.length c ∧ l.length ≤ c ∧ c ≤ 9223372036854775807 ∧ Rd w A xs ∧ L.Ls w l xs
/-- A struct by value. -/
def V (w : World) (a : α) (v : Value) : Prop := ∃ cs, v = .agg cs.toArray ∧ L.C w a cs

variable {L}
theorem Ls.nil (w : World) : L.Ls w [] [] := rfl
theorem Ls.cons {w : World} {a : α} {l : List α} {cs ys : List Value} (h1 : L.C w a cs) (h2 : L.Ls w l ys) : L.Ls w (a :: l) (cs ++ ys) := ⟨cs, ys, rfl, h1, h2⟩
theorem Ls.single {w : World} {a : α} {cs : List Value} (h1 : L.C w a cs) : L.Ls w [a] cs := by simpa using Ls.cons h1 (Ls.nil w)
theorem Ls.ext {w w' : World} (e : Ext w w') : ∀ {l : List α} {xs : List Value}, L.Ls w l xs → L.Ls w' l xs
  | [], _, h => h
  | _ :: _, _, ⟨cs, ys, h1, h2, h3⟩ => ⟨cs, ys, h1, L.ext h2 e, Ls.ext e h3⟩
theorem Ls.len {w : World} : ∀ {l : List α} {xs : List Value}, L.Ls w l xs → xs.length = l.length * L.n
  | [], xs, h => by have h : xs = [] := h; simp [h]
  | a :: l, xs, ⟨cs, ys, h1, h2, h3⟩ => by subst h1; rw [List.length_append, L.len h2, Ls.len h3, List.length_cons, Nat.add_mul, Nat.one_mul]; omega
theorem Ls.one {w : World} : ∀ {l : List α} {xs : List Value}, L.Ls w l xs → ∀ u ∈ xs, u.oneCell' = true
  | [], xs, h => by have h : xs = [] := h; simp [h]
  | a :: l, xs, ⟨cs, ys, h1, h2, h3⟩ => by
    subst h1
    intro u hu
    rcases List.mem_append.1 hu with hu | hu
    · exact L.one h2 u hu
    · exact Ls.one h3 u hu
theorem Ls.app {w : World} : ∀ {l m : List α} {xs ys : List Value}, L.Ls w l xs → L.Ls w m ys → L.Ls w (l ++ m) (xs ++ ys)
  | [], m, xs, ys, h, k => by have h : xs = [] := h; subst h; simpa using k
  | a :: l, m, xs, ys, ⟨cs, zs, h1, h2, h3⟩, k => by
    subst h1
    rw [List.cons_append, List.append_assoc]
    exact Ls.cons h2 (Ls.app h3 k)
theorem Ls.get {w : World} : ∀ {l : List α} {xs : List Value} {i : Nat} {a : α}, L.Ls w l xs → l[i]? = some a → ∃ cs, L.C w a cs ∧ ∀ j, j < L.n → xs[i * L.n + j]? = cs[j]?
  | [], _, i, _, _, hi => by simp at hi
  | b :: l, xs, 0, a, ⟨cs, ys, h1, h2, h3⟩, hi => by
    subst h1
    simp at hi
    subst hi
    refine ⟨cs, h2, fun j hj => ?_⟩
    rw [Nat.zero_mul, Nat.zero_add, List.getElem?_append_left (by rw [L.len h2]; omega)]
  | b :: l, xs, i + 1, a, ⟨cs, ys, h1, h2, h3⟩, hi => by
    subst h1
    simp at hi
    obtain ⟨ds, h4, h5⟩ := Ls.get h3 hi
    refine ⟨ds, h4, fun j hj => ?_⟩
    rw [Nat.add_mul, Nat.one_mul, List.getElem?_append_right (by rw [L.len h2]; omega), L.len h2, ← h5 j hj]
    congr 1
    omega
theorem Ls.drop {w : World} : ∀ {l : List α} {xs : List Value} (k : Nat), L.Ls w l xs → L.Ls w (l.drop k) (xs.drop (k * L.n))
  | l, xs, 0, h => by simpa using h
  | [], xs, k + 1, h => by have h : xs = [] := h; subst h; simp only [List.drop_nil]; exact Ls.nil w
  | a :: l, xs, k + 1, ⟨cs, ys, h1, h2, h3⟩ => by
    subst h1
    have e : (k + 1) * L.n = cs.length + k * L.n := by rw [L.len h2, Nat.add_mul, Nat.one_mul]; omega
    rw [e, List.drop_succ_cons, List.drop_length_add_append]
    exact Ls.drop k h3
theorem Ls.take {w : World} : ∀ {l : List α} {xs : List Value} (k : Nat), L.Ls w l xs → L.Ls w (l.take k) (xs.take (k * L.n))
  | l, xs, 0, h => by simpa using Ls.nil w
  | [], xs, k + 1, h => by have h : xs = [] := h; subst h; simp only [List.take_nil]; exact Ls.nil w
  | a :: l, xs, k + 1, ⟨cs, ys, h1, h2, h3⟩ => by
    subst h1
    have e : (k + 1) * L.n = cs.length + k * L.n := by rw [L.len h2, Nat.add_mul, Nat.one_mul]; omega
    rw [e, List.take_length_add_append, List.take_succ_cons]
    exact Ls.cons h2 (Ls.take k h3)

theorem Sl.ext {w w' : World} {l : List α} {v : Value} (h : L.Sl w l v) (e : Ext w w') : L.Sl w' l v := by
  obtain ⟨A, c, xs, h1, h2, h3, h4, h5⟩ := h
  exact ⟨A, c, xs, h1, h2, h3, h4.ext e, h5.ext e⟩
theorem V.ext {w w' : World} {a : α} {v : Value} (h : L.V w a v) (e : Ext w w') : L.V w' a v := by
  obtain ⟨cs, h1, h2⟩ := h
  exact ⟨cs, h1, L.ext h2 e⟩
theorem Sl.nil (w : World) : L.Sl w [] (.slice none 0 0) := ⟨none, 0, [], rfl, by simp, by omega, Rd.nil _ _, Ls.nil w⟩
theorem V.c {w : World} {a : α} {cs : Array Value} (h : L.V w a (.agg cs)) : L.C w a cs.toList := by
  obtain ⟨ds, h1, h2⟩ := h
  injection h1 with h1
  subst h1
  simpa using h2
/-- One of the data that a slice holds: its cells, where they lie. -/
theorem Sl.at_ {w : World} {l : List α} {A : Option Addr} {n c : Nat} (h : L.Sl w l (.slice A n c)) {i : Nat} {a : α} (hi : l[i]? = some a) :
    ∃ b o cs, A = some ⟨b, o, none⟩ ∧ L.C w a cs ∧ ∀ j, j < L.n → w.cell? ⟨b, o + i * L.n + j, none⟩ = cs[j]? := by
  obtain ⟨A', c', xs, h1, h2, h3, h4, h5⟩ := h
  injection h1 with h1 _ _
  subst h1
  obtain ⟨cs, hc, hx⟩ := h5.get hi
  have hl := L.len hc
  have hp := L.pos
  have x0 : xs[i * L.n + 0]? = some (cs[0]'(by omega)) := by rw [hx 0 hp]; exact List.getElem?_eq_getElem (by omega)
  rcases h4 with rfl | ⟨ad, rfl, hcell⟩
  · simp at x0
  · have hlen : 0 < xs.length := by
      have := (List.getElem?_eq_some_iff.1 x0).1
      omega
    have hsp : ad.spot = none := by
      have h0 := hcell 0 _ (List.getElem?_eq_getElem hlen)
      have := cell_spot h0
      simpa [Addr.add] using this
    obtain ⟨b, o, sp⟩ := ad
    simp only at hsp
    subst hsp
    refine ⟨b, o, cs, rfl, hc, fun j hj => ?_⟩
    have hxj := hx j hj
    rw [List.getElem?_eq_getElem (show j < cs.length by omega)] at hxj ⊢
    have := hcell _ _ hxj
    simpa only [add_flat, ← Nat.add_assoc] using this
theorem Sl.len {w : World} {l : List α} {A : Option Addr} {n c : Nat} (h : L.Sl w l (.slice A n c)) : n = l.length ∧ n ≤ c ∧ c ≤ 9223372036854775807 := by
  obtain ⟨A', c', xs, h1, h2, h3, -⟩ := h
  injection h1 with h4 h5 h6
  omega
theorem Sl.rd {w : World} {l : List α} {v : Value} (h : L.Sl w l v) : ∃ A c xs, v = .slice A l.length c ∧ l.length ≤ c ∧ c ≤ 9223372036854775807 ∧ Rd w A xs ∧ L.Ls w l xs := h

/-- From cells at every index to one list. -/
theorem collect {w : World} {ad : Addr} : ∀ (len : Nat), (∀ i, i < len → ∃ a cs, L.C w a cs ∧ ∀ j, j < L.n → w.cell? (ad.add (i * L.n + j)) = cs[j]?) → ∃ l xs, l.length = len ∧ L.Ls w l xs ∧ ∀ j u, xs[j]? = some u → w.cell? (ad.add j) = some u
  | 0, _ => ⟨[], [], rfl, Ls.nil w, by simp⟩
  | len + 1, h => by
    obtain ⟨l, xs, h1, h2, h3⟩ := collect len fun i hi => h i (by omega)
    obtain ⟨a, cs, h4, h5⟩ := h len (by omega)
    refine ⟨l ++ [a], xs ++ cs, by simp [h1], Ls.app h2 (Ls.single h4), fun j u hu => ?_⟩
    have hx := Ls.len h2
    by_cases hj : j < xs.length
    · rw [List.getElem?_append_left hj] at hu
      exact h3 j u hu
    · rw [List.getElem?_append_right (by omega)] at hu
      have hlt := (List.getElem?_eq_some_iff.1 hu).1
      rw [L.len h4] at hlt
      have h6 := h5 (j - xs.length) hlt
      rw [hu] at h6
      rw [← h6, hx, h1]
      rw [hx, h1] at hj
      congr 2
      omega

section
variable {H : Type} {enc : TypeId × Value → H} {W : World} {base : Nat} {sp : Nat → Bool} {hd : Bool}
/-- A slice opened. -/
theorem open_sl {t e : TypeId} (ht : (Try.prog).underlying t = some (.slice e)) (hn : (Try.prog).cellsOf e = L.n) {fuel : Nat} (he : ∀ n cs x, n < fuel → DataW.trod enc Try.prog W base sp hd n e cs = some x → ∃ a, L.C W a cs)
    {cs : List Value} {x : DataW H × List MemPlace} (h : DataW.trod enc Try.prog W base sp hd fuel t cs = some x) : ∃ l v, cs = [v] ∧ L.Sl W l v := by
  rcases DataW.trod_slice ht h with ⟨rfl, _⟩ | ⟨a, len, cap, elems, rest, n, hf, rfl, _, _, hl, hm, hlen, hel, _, _⟩
  · exact ⟨[], _, rfl, Sl.nil W⟩
  · have hel' : ∀ i, i < len → ∃ a' cs, L.C W a' cs ∧ ∀ j, j < L.n → W.cell? (a.add (i * L.n + j)) = cs[j]? := fun i hi => by
      have h1 := hel i hi
      rw [List.getElem?_eq_getElem (by omega), hn] at h1
      obtain ⟨cs', h2, h3⟩ := Option.bind_eq_some_iff.1 h1
      obtain ⟨a', h4⟩ := he n cs' _ (by omega) h3
      obtain ⟨_, h5, h6⟩ := World.cells?_some h2
      refine ⟨a', cs', h4, fun j hj => ?_⟩
      rw [← add_addE]
      exact h6 j hj
    obtain ⟨l, xs, h1, h2, h3⟩ := collect (L := L) len hel'
    subst h1
    exact ⟨l, _, rfl, some a, cap, xs, rfl, hl, by unfold maxLen at hm; omega, .inr ⟨a, rfl, h3⟩, h2⟩
end
end Lay

/-- The layout of terms. -/
def layT : Lay T where
  C := CT
  n := 4
  pos := by omega
  ext := fun h e => CT.ext e h
  len := CT.len
  one := CT.one
theorem layT_ls {w : World} : ∀ {l : List T} {xs : List Value}, layT.Ls w l xs ↔ CL w l xs
  | [], xs => by simp only [CL]; rfl
  | t :: l, xs => by
    simp only [CL]
    constructor
    · rintro ⟨cs, ys, h1, h2, h3⟩; exact ⟨cs, ys, h1, h2, layT_ls.1 h3⟩
    · rintro ⟨cs, ys, h1, h2, h3⟩; exact ⟨cs, ys, h1, h2, layT_ls.2 h3⟩
theorem layT_sl {w : World} {l : List T} {v : Value} : layT.Sl w l v ↔ SlT w l v := by
  constructor
  · rintro ⟨A, c, xs, h1, h2, h3, h4, h5⟩; exact ⟨A, c, xs, h1, h2, h3, h4, layT_ls.1 h5⟩
  · rintro ⟨A, c, xs, h1, h2, h3, h4, h5⟩; exact ⟨A, c, xs, h1, h2, h3, h4, layT_ls.2 h5⟩

/-- The layout of integers. -/
def layI : Lay Int where
  C := fun _ n cs => cs = [.int .i64 n] ∧ I64 n
  n := 1
  pos := by omega
  ext := fun h _ => h
  len := fun h => by rw [h.1]; rfl
  one := fun h u hu => by rw [h.1] at hu; simp at hu; subst hu; rfl
end Go.Proofs.Ytcjbageaiafbmaa
