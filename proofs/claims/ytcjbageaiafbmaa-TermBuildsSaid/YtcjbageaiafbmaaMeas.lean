/-
  The plain measures of terms: weight, size, depth; the arguments that a term uses.
-/
import Derived.Test.YtcjbageaiafbmaaWeigh
namespace Go.Proofs.Ytcjbageaiafbmaa

mutual
/-- All nodes, those of arguments that are not used too. -/
def wt : T → Nat
  | .mk _ _ _ ar => 1 + wtL ar
def wtL : List T → Nat
  | [] => 0
  | t :: ts => wt t + wtL ts
end
/-- The arguments that a term uses. -/
def T.used (t : T) : List T := if t.k = 2 then t.ar else []
mutual
def sizeT : T → Nat
  | .mk k _ _ ar => 1 + if k = 2 then sizeL ar else 0
def sizeL : List T → Nat
  | [] => 0
  | t :: ts => sizeT t + sizeL ts
end
mutual
def depthT : T → Nat
  | .mk k _ _ ar => (if k = 2 then depthL ar else 0) + 1
def depthL : List T → Nat
  | [] => 0
  | t :: ts => max (depthT t) (depthL ts)
end

theorem wt_eq (t : T) : wt t = 1 + wtL t.ar := by cases t; simp [wt, T.ar]
theorem sizeT_eq (t : T) : sizeT t = 1 + sizeL t.used := by cases t; simp only [sizeT, T.used, T.ar, T.k]; split <;> rename_i h <;> simp [sizeL, h]
theorem depthT_eq (t : T) : depthT t = depthL t.used + 1 := by cases t; simp only [depthT, T.used, T.ar, T.k]; split <;> rename_i h <;> simp [depthL, h]
theorem wtL_app (a b : List T) : wtL (a ++ b) = wtL a + wtL b := by
  induction a with
  | nil => simp [wtL]
  | cons t a ih => simp only [List.cons_append, wtL, ih]; omega
theorem sizeL_app (a b : List T) : sizeL (a ++ b) = sizeL a + sizeL b := by
  induction a with
  | nil => simp [sizeL]
  | cons t a ih => simp only [List.cons_append, sizeL, ih]; omega
theorem depthL_app (a b : List T) : depthL (a ++ b) = max (depthL a) (depthL b) := by
  induction a with
  | nil => simp [depthL]
  | cons t a ih => simp only [List.cons_append, depthL, ih]; omega
theorem wt_mem {t : T} : ∀ {l : List T}, t ∈ l → wt t ≤ wtL l
  | u :: l, h => by
    simp only [wtL]
    rcases List.mem_cons.1 h with rfl | h
    · omega
    · have := wt_mem h; omega
theorem wtL_used (t : T) : wtL t.used ≤ wtL t.ar := by unfold T.used; split <;> simp [wtL]
theorem wt_used {t u : T} (h : u ∈ t.used) : wt u < wt t := by
  have := wt_mem h
  have := wtL_used t
  rw [wt_eq t]; omega
theorem wt_ar {t u : T} (h : u ∈ t.ar) : wt u < wt t := by
  have := wt_mem h
  rw [wt_eq t]; omega
theorem len_wtL : ∀ l : List T, l.length ≤ wtL l
  | [] => by simp
  | t :: l => by
    simp only [wtL, List.length_cons]
    have := len_wtL l
    rw [wt_eq t]; omega
mutual
theorem size_wt : ∀ t : T, sizeT t ≤ wt t
  | .mk k i s ar => by
    simp only [sizeT, wt]
    have := sizeL_wt ar
    split <;> omega
theorem sizeL_wt : ∀ l : List T, sizeL l ≤ wtL l
  | [] => by simp [sizeL]
  | t :: l => by
    simp only [sizeL, wtL]
    have := size_wt t
    have := sizeL_wt l
    omega
end
mutual
theorem depth_wt : ∀ t : T, depthT t ≤ wt t
  | .mk k i s ar => by
    simp only [depthT, wt]
    have := depthL_wt ar
    split <;> omega
theorem depthL_wt : ∀ l : List T, depthL l ≤ wtL l
  | [] => by simp [depthL]
  | t :: l => by
    simp only [depthL, wtL]
    have := depth_wt t
    have := depthL_wt l
    omega
end
theorem take_snocT {l : List T} {k : Nat} {t : T} (h : l[k]? = some t) : l.take (k + 1) = l.take k ++ [t] := by
  have hk := (List.getElem?_eq_some_iff.1 h).1
  rw [List.take_succ_eq_append_getElem hk]
  have := List.getElem?_eq_getElem hk
  rw [this] at h
  injection h with h
  rw [h]
theorem wt_take (l : List T) (k : Nat) : wtL (l.take k) ≤ wtL l := by
  have := wtL_app (l.take k) (l.drop k)
  rw [List.take_append_drop] at this
  omega

/-- What is not left out weighs at most so much. -/
theorem weigh_wt : ∀ (d : Nat) (l : List T) (left : Int), 0 ≤ weighF d l left → (wtL l : Int) + weighF d l left ≤ left
  | 0, _, _, h => by simp [weighF] at h
  | d + 1, l, left, h => by
    unfold weighF at h ⊢
    split at h
    · omega
    · rename_i hn
      rw [if_neg hn]
      have hf : ∀ (l : List T) (left : Int), 0 ≤ l.foldl (fun left t => if left < 0 then left else weighF d t.ar (left - 1 - (t.s.size / 8 : Nat))) left →
          (wtL l : Int) + l.foldl (fun left t => if left < 0 then left else weighF d t.ar (left - 1 - (t.s.size / 8 : Nat))) left ≤ left := by
        intro l
        induction l with
        | nil => intro left _; simp [wtL]
        | cons t l ih =>
          intro left h
          rw [List.foldl_cons] at h ⊢
          by_cases h0 : left < 0
          · rw [if_pos h0, weigh_neg _ _ _ h0] at h; omega
          · rw [if_neg h0] at h ⊢
            have h1 := ih _ h
            by_cases h2 : weighF d t.ar (left - 1 - (t.s.size / 8 : Nat)) < 0
            · rw [weigh_neg _ _ _ h2] at h; omega
            · have h3 := weigh_wt d t.ar (left - 1 - (t.s.size / 8 : Nat)) (by omega)
              simp only [wtL, wt_eq t]
              omega
      exact hf l left h
end Go.Proofs.Ytcjbageaiafbmaa
