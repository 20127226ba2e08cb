/-
  The standard order of terms: its plain function, which is the same for the program and the reference.
-/
import Derived.Test.YtcjbageaiafbmaaCmpW
namespace Go.Proofs.Ytcjbageaiafbmaa
open Go.RowKit

/-- The first number that is not 0. -/
def orI (a b : Int) : Int := if a ≠ 0 then a else b

mutual
def cmpT : T → T → Int
  | .mk k i s ar, u =>
    orI (cmpI (rankK k) (rankK u.k))
      (if rankK k = 0 ∨ rankK k = 1 then cmpI i u.i
       else if rankK k = 2 then orI (cmpI ar.length u.ar.length) (orI (cmpS s u.s) (cmpL ar u.ar))
       else orI (cmpI k u.k) (orI (cmpI i u.i) (cmpS s u.s)))
/-- The common part alone. -/
def cmpL : List T → List T → Int
  | [], _ => 0
  | t :: ts, us => match us with
    | [] => 0
    | u :: us => orI (cmpT t u) (cmpL ts us)
end

theorem cmpT_eq (t u : T) : cmpT t u = orI (cmpI (rankK t.k) (rankK u.k))
      (if rankK t.k = 0 ∨ rankK t.k = 1 then cmpI t.i u.i
       else if rankK t.k = 2 then orI (cmpI t.ar.length u.ar.length) (orI (cmpS t.s u.s) (cmpL t.ar u.ar))
       else orI (cmpI t.k u.k) (orI (cmpI t.i u.i) (cmpS t.s u.s))) := by
  cases t; cases u; simp only [cmpT, T.k, T.i, T.s, T.ar]; rfl
theorem cmpL_cons (t u : T) (ts us : List T) : cmpL (t :: ts) (u :: us) = orI (cmpT t u) (cmpL ts us) := by simp only [cmpL]
theorem cmpL_drop {ts us : List T} {k : Nat} {t u : T} (h1 : ts[k]? = some t) (h2 : us[k]? = some u) : cmpL (ts.drop k) (us.drop k) = orI (cmpT t u) (cmpL (ts.drop (k + 1)) (us.drop (k + 1))) := by
  have e : ∀ {l : List T} {x : T}, l[k]? = some x → l.drop k = x :: l.drop (k + 1) := fun {l x} h => by
    have hk := (List.getElem?_eq_some_iff.1 h).1
    rw [List.drop_eq_getElem_cons hk]; congr 1
    have := List.getElem?_eq_getElem hk
    rw [this] at h; injection h
  rw [e h1, e h2, cmpL_cons]
theorem cmpI_zero {a b : Int} (h : cmpI a b = 0) : a = b := by unfold cmpI at h; split at h <;> (try split at h) <;> omega
theorem cmpI_self (a : Int) : cmpI a a = 0 := by unfold cmpI; simp
theorem rankK_lt (k : Int) : 0 ≤ rankK k ∧ rankK k ≤ 3 := by unfold rankK; split <;> (try split) <;> (try split) <;> omega

theorem quiet_left {P : Program} {f : FuncId} {args : Array Value} {w : World} {n : Nat} {v : Value}
    (h : Calls P f args (w.drewN n) fun e w' => e = .returned v ∧ w.drewN n = w') : Calls P f args (w.drewN n) fun e w'' => e = .returned v ∧ ∃ m, w'' = w.drewN m :=
  h.mono fun _ _ ⟨he, hm⟩ => ⟨he, n, hm.symm⟩
end Go.Proofs.Ytcjbageaiafbmaa
