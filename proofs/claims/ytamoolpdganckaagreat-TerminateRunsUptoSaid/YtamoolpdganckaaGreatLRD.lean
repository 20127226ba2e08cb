/-
 Texts of the seat, merged.
-/
import Derived.Test.YtamoolpdganckaaGreatLRC
set_option linter.unusedVariables false
set_option linter.unusedSimpArgs false
set_option linter.unnecessarySimpa false
set_option linter.all false
set_option maxHeartbeats 8000000
namespace Go.Proofs.YtamoolpdganckaaGreat
noncomputable section
set_option maxRecDepth 100000
open Go.RowKit
structure TyS (P : Program) (t : TypeId) (b : Bool) (n : Nat) : Prop where
 h : Ty P t b n
structure FlS (P : Program) (s : TypeId) (f off : Nat) : Prop where
 h : Fld P s f off
structure ElS (P : Program) (t e : TypeId) (s by_ : Nat) : Prop where
 h : ElT P t e s by_
theorem qwa : TyS Tryz.prog 200 false 1 := ⟨qxN⟩
theorem qrj : TyS Tryz.prog 53 false 1 := ⟨qs1⟩
theorem qrm : TyS Tryz.prog 36 false 1 := ⟨qts⟩
theorem qrL : TyS Tryz.prog 22 false 1 := ⟨qtd⟩
theorem qqV : TyS Tryz.prog 41 false 1 := ⟨qrV⟩
theorem qre : TyS Tryz.prog 38 false 1 := ⟨qom⟩
theorem qqi : TyS Tryz.prog 34 false 1 := ⟨qdF⟩
theorem qrB : TyS Tryz.prog 26 false 1 := ⟨qtj⟩
theorem qrN : TyS Tryz.prog 35 false 1 := ⟨qjP⟩
theorem qti : TyS Tryz.prog 128 false 1 := ⟨quj⟩
theorem qr2 : TyS Tryz.prog 56 false 1 := ⟨qtL⟩
theorem qr3 : TyS Tryz.prog 23 false 1 := ⟨qtY⟩
theorem qrf : TyS Tryz.prog 46 false 1 := ⟨qjT⟩
theorem qjJ : TyS Tryz.prog 255 false 1 := ⟨qjU⟩
theorem qkF : TyS Tryz.prog 252 false 1 := ⟨qh2⟩
theorem qzO : TyS Tryz.prog 60 false 1 := ⟨qkM⟩
theorem qmE : TyS Tryz.prog 91 false 1 := ⟨qmR⟩
theorem qkb : TyS Tryz.prog 251 false 1 := ⟨qkA⟩
theorem qml : TyS Tryz.prog 17 false 1 := ⟨qmW⟩
theorem qqQ : TyS Tryz.prog 216 false 1 := ⟨qr8⟩
theorem qoD : TyS Tryz.prog 156 false 1 := ⟨qpm⟩
theorem qvk : TyS Tryz.prog 276 false 1 := ⟨qxQ⟩
theorem qpc : TyS Tryz.prog 48 true 2 := ⟨qmx⟩
theorem qpb : TyS Tryz.prog 165 true 5 := ⟨qkd⟩
theorem qtT : TyS Tryz.prog 37 false 1 := ⟨qph⟩
theorem qnI : TyS Tryz.prog 40 true 7 := ⟨q7⟩
theorem qpf : TyS Tryz.prog 67 true 2 := ⟨qvF⟩
theorem qtb : TyS Tryz.prog 27 false 1 := ⟨qu9⟩
theorem qoh : TyS Tryz.prog 62 true 5 := ⟨qnk⟩
theorem qpe : TyS Tryz.prog 168 true 2 := ⟨qv6⟩
theorem qog : TyS Tryz.prog 90 true 5 := ⟨qer⟩
theorem qpa : TyS Tryz.prog 55 true 3 := ⟨qjl⟩
theorem qo2 : TyS Tryz.prog 50 true 3 := ⟨qvP⟩
theorem qpU : TyS Tryz.prog 94 true 3 := ⟨qxV⟩
theorem qnc : TyS Tryz.prog 25 true 2 := ⟨qri⟩
theorem qo4 : TyS Tryz.prog 103 true 3 := ⟨qka⟩
theorem qo8 : TyS Tryz.prog 64 true 6 := ⟨qp1⟩
theorem qo9 : TyS Tryz.prog 78 true 4 := ⟨qdI⟩
theorem qA6 : TyS Tryz.prog 4 false 1 := ⟨qAr⟩
theorem qk9 : TyS Tryz.prog 254 true 2 := ⟨qlT⟩
theorem qhv : TyS Tryz.prog 261 true 2 := ⟨qfe⟩
theorem qir : TyS Tryz.prog 259 true 4 := ⟨qms⟩
theorem qC2 : TyS Tryz.prog 3 false 1 := ⟨qfj⟩
theorem qyM : TyS Tryz.prog 21 false 1 := ⟨qBC⟩
theorem qyW : TyS Tryz.prog 2 false 1 := ⟨qBI⟩
theorem qpn : TyS Tryz.prog 187 false 1 := ⟨qqU⟩
theorem qra : TyS Tryz.prog 190 false 1 := ⟨qrG⟩
theorem qrZ : TyS Tryz.prog 219 false 1 := ⟨qtX⟩
theorem qt4 : TyS Tryz.prog 192 true 2 := ⟨qur⟩
theorem qjx : TyS Tryz.prog 96 true 9 := ⟨qnD⟩
theorem qnB : TyS Tryz.prog 124 false 1 := ⟨qnX⟩
theorem qyh : TyS Tryz.prog 9 false 1 := ⟨quF⟩
theorem qp8 : TyS Tryz.prog 158 true 1 := ⟨qrg⟩
theorem qB9 : TyS Tryz.prog 263 false 1 := ⟨qDO⟩
theorem qx6 : TyS Tryz.prog 264 false 1 := ⟨qAg⟩
theorem qzu : TyS Tryz.prog 5 false 1 := ⟨qB1⟩
theorem qvU : TyS Tryz.prog 12 false 1 := ⟨qx5⟩
theorem qrU : FlS Tryz.prog 48 0 0 := ⟨qtI⟩
theorem qr5 : FlS Tryz.prog 48 1 1 := ⟨qtz⟩
theorem qse : FlS Tryz.prog 165 0 0 := ⟨qsV⟩
theorem qr1 : FlS Tryz.prog 165 1 1 := ⟨qtp⟩
theorem qpv : FlS Tryz.prog 40 0 0 := ⟨qW⟩
theorem qpy : FlS Tryz.prog 40 1 1 := ⟨qe2⟩
theorem qpt : FlS Tryz.prog 40 2 2 := ⟨qiK⟩
theorem qpu : FlS Tryz.prog 40 3 3 := ⟨qiQ⟩
theorem qpr : FlS Tryz.prog 40 4 4 := ⟨qhA⟩
theorem qpp : FlS Tryz.prog 40 5 5 := ⟨qiL⟩
theorem qpl : FlS Tryz.prog 40 6 6 := ⟨qkj⟩
theorem qrX : FlS Tryz.prog 67 0 0 := ⟨qtq⟩
theorem qrR : FlS Tryz.prog 67 1 1 := ⟨qtJ⟩
theorem qpS : FlS Tryz.prog 62 0 0 := ⟨qrW⟩
theorem qqH : FlS Tryz.prog 62 1 1 := ⟨qrY⟩
theorem qqI : FlS Tryz.prog 62 2 2 := ⟨qr9⟩
theorem qqg : FlS Tryz.prog 62 3 3 := ⟨qrD⟩
theorem qqG : FlS Tryz.prog 62 4 4 := ⟨qrF⟩
theorem qrT : FlS Tryz.prog 168 0 0 := ⟨qtf⟩
theorem qrP : FlS Tryz.prog 168 1 1 := ⟨qs0⟩
theorem qqw : FlS Tryz.prog 90 0 0 := ⟨qhd⟩
theorem qp5 : FlS Tryz.prog 90 1 3 := ⟨qnF⟩
theorem qqx : FlS Tryz.prog 90 2 4 := ⟨qew⟩
theorem qsb : FlS Tryz.prog 55 0 0 := ⟨qsZ⟩
theorem qrx : FlS Tryz.prog 55 1 1 := ⟨qoc⟩
theorem qrM : FlS Tryz.prog 55 2 2 := ⟨qoj⟩
theorem qrJ : FlS Tryz.prog 50 0 0 := ⟨qtM⟩
theorem qrI : FlS Tryz.prog 50 1 1 := ⟨qth⟩
theorem qto : FlS Tryz.prog 94 0 0 := ⟨qva⟩
theorem qs6 : FlS Tryz.prog 94 1 1 := ⟨quu⟩
theorem quh : FlS Tryz.prog 94 2 2 := ⟨quP⟩
theorem qoK : FlS Tryz.prog 25 0 0 := ⟨qpo⟩
theorem qoS : FlS Tryz.prog 25 1 1 := ⟨qpx⟩
theorem qrp : FlS Tryz.prog 103 0 0 := ⟨qta⟩
theorem qrk : FlS Tryz.prog 103 1 1 := ⟨qt2⟩
theorem qrw : FlS Tryz.prog 103 2 2 := ⟨qjV⟩
theorem qro : FlS Tryz.prog 64 0 0 := ⟨qtr⟩
theorem qrs : FlS Tryz.prog 64 1 1 := ⟨qs5⟩
theorem qrl : FlS Tryz.prog 64 2 2 := ⟨qs8⟩
theorem qr0 : FlS Tryz.prog 64 3 3 := ⟨qtx⟩
theorem qsa : FlS Tryz.prog 64 4 4 := ⟨qsS⟩
theorem qrE : FlS Tryz.prog 64 5 5 := ⟨qtO⟩
theorem qrS : FlS Tryz.prog 78 0 0 := ⟨qcC⟩
theorem qrh : FlS Tryz.prog 78 1 1 := ⟨qcI⟩
theorem qr4 : FlS Tryz.prog 78 2 2 := ⟨qgn⟩
theorem qrC : FlS Tryz.prog 78 3 3 := ⟨qcx⟩
theorem qj5 : FlS Tryz.prog 254 0 0 := ⟨qk⟩
theorem qkg : FlS Tryz.prog 254 1 1 := ⟨qY⟩
theorem qjK : FlS Tryz.prog 261 0 0 := ⟨qc6⟩
theorem qjE : FlS Tryz.prog 261 1 1 := ⟨qdR⟩
theorem qky : FlS Tryz.prog 259 0 0 := ⟨qkY⟩
theorem qkB : FlS Tryz.prog 259 1 1 := ⟨qk7⟩
theorem qkG : FlS Tryz.prog 259 2 2 := ⟨qk1⟩
theorem qkz : FlS Tryz.prog 259 3 3 := ⟨qfo⟩
theorem qqm : FlS Tryz.prog 192 0 0 := ⟨qhe⟩
theorem qpT : FlS Tryz.prog 192 1 1 := ⟨qlf⟩
theorem qmb : FlS Tryz.prog 96 0 0 := ⟨qm0⟩
theorem qmB : FlS Tryz.prog 96 1 3 := ⟨qmM⟩
theorem qoU : FlS Tryz.prog 158 0 0 := ⟨qpA⟩
theorem qvC : ElS Tryz.prog 200 60 1 24 := ⟨qj4⟩
theorem qrK : ElS Tryz.prog 53 48 2 40 := ⟨qeG⟩
theorem qsd : ElS Tryz.prog 36 165 5 64 := ⟨qgQ⟩
theorem qsf : ElS Tryz.prog 22 67 2 24 := ⟨qiH⟩
theorem qp4 : ElS Tryz.prog 41 62 5 56 := ⟨qef⟩
theorem qry : ElS Tryz.prog 38 168 2 32 := ⟨qfl⟩
theorem qpY : ElS Tryz.prog 34 90 5 64 := ⟨qa4⟩
theorem qrO : ElS Tryz.prog 26 55 3 48 := ⟨qgW⟩
theorem qrr : ElS Tryz.prog 35 50 3 48 := ⟨qeo⟩
theorem qtc : ElS Tryz.prog 128 94 3 24 := ⟨qjr⟩
theorem qsc : ElS Tryz.prog 56 103 3 48 := ⟨qiO⟩
theorem qrQ : ElS Tryz.prog 23 64 6 120 := ⟨qmm⟩
theorem qru : ElS Tryz.prog 46 78 4 56 := ⟨qbg⟩
theorem qjB : ElS Tryz.prog 255 261 2 16 := ⟨qdS⟩
theorem qkJ : ElS Tryz.prog 252 259 4 56 := ⟨qgq⟩
theorem qAh : ElS Tryz.prog 60 3 1 8 := ⟨qaS⟩
theorem qmg : ElS Tryz.prog 91 96 9 144 := ⟨qm4⟩
theorem qud : ElS Tryz.prog 37 165 5 64 := ⟨qeP⟩
theorem aTy {P : Program} {t : TypeId} {b : Bool} {n : Nat} (h : TyS P t b n := by first | exact qwa | exact qrj | exact qrm | exact qrL | exact qqV | exact qre | exact qqi | exact qrB | exact qrN | exact qti | exact qr2 | exact qr3 | exact qrf | exact qjJ | exact qkF | exact qzO | exact qmE | exact qkb | exact qml | exact qqQ | exact qoD | exact qvk | exact qpc | exact qpb | exact qtT | exact qnI | exact qpf | exact qtb | exact qoh | exact qpe | exact qog | exact qpa | exact qo2 | exact qpU | exact qnc | exact qo4 | exact qo8 | exact qo9 | exact qA6 | exact qk9 | exact qhv | exact qir | exact qC2 | exact qyM | exact qyW | exact qpn | exact qra | exact qrZ | exact qt4 | exact qjx | exact qnB | exact qyh | exact qp8 | exact qB9 | exact qx6 | exact qzu | exact qvU) : TyS P t b n := h
theorem aFl {P : Program} {s : TypeId} {f off : Nat} (h : FlS P s f off := by first | exact qrU | exact qr5 | exact qse | exact qr1 | exact qpv | exact qpy | exact qpt | exact qpu | exact qpr | exact qpp | exact qpl | exact qrX | exact qrR | exact qpS | exact qqH | exact qqI | exact qqg | exact qqG | exact qrT | exact qrP | exact qqw | exact qp5 | exact qqx | exact qsb | exact qrx | exact qrM | exact qrJ | exact qrI | exact qto | exact qs6 | exact quh | exact qoK | exact qoS | exact qrp | exact qrk | exact qrw | exact qro | exact qrs | exact qrl | exact qr0 | exact qsa | exact qrE | exact qrS | exact qrh | exact qr4 | exact qrC | exact qj5 | exact qkg | exact qjK | exact qjE | exact qky | exact qkB | exact qkG | exact qkz | exact qqm | exact qpT | exact qmb | exact qmB | exact qoU) : FlS P s f off := h
theorem aEl {P : Program} {t e : TypeId} {s by_ : Nat} (h : ElS P t e s by_ := by first | exact qvC | exact qrK | exact qsd | exact qsf | exact qp4 | exact qry | exact qpY | exact qrO | exact qrr | exact qtc | exact qsc | exact qrQ | exact qru | exact qjB | exact qkJ | exact qAh | exact qmg | exact qud) : ElS P t e s by_ := h
theorem aAll {α : Type} {f : α → D} {s : Nat} (h : ∀ a, sz (f a) = s := by first | exact fun _ => rfl | exact qc2 | exact qeW | exact qcW | exact qgs | exact qg3 | exact qg5 | exact qiG | exact qjH | exact qfb | exact qfO | exact qez | exact qcD | exact qee | exact qad | exact qc3 | exact qht | exact sz_S_stored_occurrence) : ∀ a, sz (f a) = s := h
theorem aOne {d : D} {n : Nat} (h : sz d = n := by first | exact rfl | exact qc2 _ | exact qeW _ | exact qcW _ | exact qgs _ | exact qg3 _ | exact qg5 _ | exact qiG _ | exact qjH _ | exact qfb _ | exact qfO _ | exact qez _ | exact qcD _ | exact qee _ | exact qad _ | exact qc3 _ | exact qht _ | exact sz_S_stored_occurrence _) : sz d = n := h
structure Bo (A B : Prop) : Prop where
 a : A
 b : B
def xo (P : Program) (o : Oper) (env : Env) : Option (D × Prop) := match o.op with
 | .move x => match ev env x with
  | some d => some (d, True)
  | none => none
 | .assign x => match ev env x with
  | some d => some (d, True)
  | none => none
 | .extract x j => match ev env x with
  | some (.tup ds) => match ds[j]? with
   | some d => some (d, True)
   | none => none
  | _ => none
 | .unOp .not _ x => match ev env x with
  | some (.bool b) => some (.bool (!b), True)
  | _ => none
 | .pick c x y => match ev env c with
  | some (.bool true) => match ev env x with
   | some d => some (d, True)
   | none => none
  | some (.bool false) => match ev env y with
   | some d => some (d, True)
   | none => none
  | _ => none
 | .binOp op _ x y _ => match ev env x with
  | some (.int k m) => match ev env y with
   | some (.int k' n) => if k = k' then match icmp op m n with
    | some b => some (.bool b, True)
    | none => none else none
   | _ => none
  | _ => none
 | .load t x => match ev env x with
  | some (.ptr d) => some (d, TyS P t d.isAgg (sz d))
  | _ => none
 | .fieldAddr s x f => match ev env x with
  | some (.ptr (.agg fs)) => match fs[f]? with
   | some d => some (.ptr d, Bo (FlS P s f (szs (fs.take f))) (d.plain = true))
   | none => none
  | _ => none
 | _ => none
theorem qA3 {P : Program} {o : Oper} {env : Env} {d : D} {C : Prop} (h : xo P o env = some (d, C)) (hc : C) : zD P o (ev env) d := by
 unfold xo at h
 split at h
 rename_i x ho
 split at h
 rename_i e hx
 cases h
 exact qEp ho hx
 cases h
 rename_i x ho
 split at h
 rename_i e hx
 cases h
 exact qAX ho hx
 cases h
 rename_i x j ho
 split at h
 rename_i ds hx
 split at h
 rename_i e he
 cases h
 exact qz5 ho hx he
 cases h
 cases h
 rename_i t x ho
 split at h
 rename_i b hx
 cases h
 exact qEP ho hx
 cases h
 rename_i c x y ho
 split at h
 rename_i hcc
 split at h
 rename_i e hx
 cases h
 exact qDj ho hcc hx
 cases h
 rename_i hcc
 split at h
 rename_i e hx
 cases h
 exact qDK ho hcc hx
 cases h
 cases h
 rename_i op t x y t' ho
 split at h
 rename_i k m hx
 split at h
 rename_i k' n hy
 split at h
 rename_i hk
 subst hk
 split at h
 rename_i b hb
 cases h
 exact qER ho hx hy hb
 cases h
 cases h
 cases h
 cases h
 rename_i t x ho
 split at h
 rename_i e hx
 cases h
 exact qzV ho hx hc.h rfl
 cases h
 rename_i s x f ho
 split at h
 rename_i fs hx
 split at h
 rename_i e he
 cases h
 exact qG ho hc.a.h hx he rfl hc.b
 cases h
 cases h
 cases h
def xr (P : Program) (l : List Oper) : Nat → List (Nat × Cls) → Env → Prop → Option (List (Nat × Cls) × Env × Prop)
 | 0, r, e, C => some (r, e, C)
 | n + 1, r, e, C => match r with
  | [] => none
  | (i, c) :: r => match l[i]? with
   | none => none
   | some o => match z8 l e o with
    | none => none
    | some false => match o.dst with
     | some t => xr P l n r ((t, .undef) :: e) C
     | none => xr P l n r e C
    | some true => match c with
     | .d => match o.dst with
      | none => none
      | some t => match xo P o e with
       | some (d, C') => xr P l n r ((t, d) :: e) (Bo C C')
       | none => none
     | _ => none
theorem qow {P : Program} {l : List Oper} {X : Env → D → St → Prop} {Q : Env → St → Prop} {σ : St} {r' : List (Nat × Cls)} {e' : Env} {C' : Prop} (hk : Run P l.toArray X Q r' e' σ) (hC : C') : ∀ (n : Nat) (r : List (Nat × Cls)) (e : Env) (C : Prop), xr P l n r e C = some (r', e', C') → C ∧ Run P l.toArray X Q r e σ
 | 0, r, e, C, h => by
  simp only [xr, Option.some.injEq, Prod.mk.injEq] at h
  obtain ⟨rfl, rfl, rfl⟩ := h
  exact ⟨hC, hk⟩
 | n + 1, [], e, C, h => by cases h
 | n + 1, (i, c) :: r, e, C, h => by
  simp only [xr] at h
  split at h
  cases h
  rename_i o ho
  split at h
  cases h
  rename_i hw
  split at h
  rename_i t ht
  obtain ⟨h1, h2⟩ := qow hk hC n r _ C h
  exact ⟨h1, qEb ho ht hw h2⟩
  rename_i ht
  obtain ⟨h1, h2⟩ := qow hk hC n r _ C h
  exact ⟨h1, qDE ho ht hw h2⟩
  rename_i hw
  split at h
  split at h
  cases h
  rename_i t ht
  split at h
  rename_i d C1 hx
  obtain ⟨h1, h2⟩ := qow hk hC n r _ (Bo C C1) h
  exact ⟨h1.a, r_d ho ht hw (qA3 hx h1.b) h2⟩
  cases h
  cases h
theorem tz {P : Program} {te n : Nat} {b : Bool} {d : D} (h : TyS P te b n) (e : sz d = n) : TyS P te b (sz d) := by rw [e]; exact h
theorem aTz {P : Program} {te n : Nat} {b : Bool} (h : TyS P te b n := by first | exact tz qo9 (qc2 _) | exact tz qpc (qeW _) | exact tz qpa (qcW _) | exact tz qpb (qgs _) | exact tz qo2 (qg3 _) | exact tz qpf (qg5 _) | exact tz qo8 (qiG _) | exact tz qnc (qjH _) | exact tz qpe (qfb _) | exact tz qo4 (qfO _) | exact tz qir (qez _) | exact tz qhv (qcD _) | exact tz qnI (qee _) | exact tz qog (qad _) | exact tz qoh (qc3 _) | exact tz qpU (qht _) | exact tz qjx (sz_S_stored_occurrence _)) : TyS P te b n := h
theorem qd {P : Program} {l : List Oper} {X : Env → D → St → Prop} {Q : Env → St → Prop} {σ : St} {r r' : List (Nat × Cls)} {e e' : Env} {C : Prop} (n : Nat) (h : xr P l n r e True = some (r', e', C)) (hk : Run P l.toArray X Q r' e' σ) (hC : C := by repeat' (first | exact True.intro | refine Bo.mk ?_ ?_ | exact rfl | (exact aFl) | (exact aTy) | (exact aTz))) : Run P l.toArray X Q r e σ := (qow hk hC n r e True h).2
def ixd : Nat → Nat → List (Nat × Cls)
 | _, 0 => []
 | i, n + 1 => (i, .d) :: ixd (i + 1) n
theorem qvu : ∀ (n i : Nat), (ixd i n).map (·.1) = List.range' i n
 | 0, i => rfl
 | n + 1, i => by rw [ixd, jm, qvu n (i + 1), List.range'_succ]
theorem qt6 {P : Program} {f : FuncId} {fn : Func} {K : Ctx} {R : D → St → Prop} {k : List Item} {env : Env} {σ : St} {id : Nat} {l : List Oper} (n : Nat) (h : Run P l.toArray (fun _ => K.X) (Goes P f fn K R k) (ixd 0 n) env σ) (hok : yx l.toArray fn.ntmps = true := by kernel_rfl) (hn : l.length = n := by exact rfl) : Goes P f fn K R (.code (.region id l.toArray false) :: k) env σ := qBU hok (ixd 0 n) (by rw [qvu, hn, Je]) h
theorem qE0 {P : Program} {f : FuncId} {fn : Func} {K : Ctx} {R : D → St → Prop} {k : List Item} {env env' : Env} {σ : St} {id : Nat} {ops : Array Oper} {C : Prop} (h : ∀ Q : Env → St → Prop, Q env' σ → C ∧ Run P ops.toList.toArray (fun _ => K.X) Q (ixd 0 ops.toList.length) env σ) (hok : yx ops fn.ntmps = true) (hk : Goes P f fn K R k env' σ) : C ∧ Goes P f fn K R (.code (.region id ops false) :: k) env σ := by
 cases ops with
 | mk l =>
  obtain ⟨h1, h2⟩ := h _ hk
  exact ⟨h1, qBU (l := l) hok (ixd 0 l.length) (by rw [qvu, Je]) h2⟩
def yr (P : Program) (nt : Nat) : Nat → List Item → Env → Prop → Option (List Item × Env × Prop)
 | 0, k, e, C => some (k, e, C)
 | n + 1, .code (.seq x y) :: k, e, C => yr P nt n (.code x :: .code y :: k) e C
 | n + 1, .code .skip :: k, e, C => yr P nt n k e C
 | n + 1, .inBlock _ :: k, e, C => yr P nt n k e C
 | n + 1, .code (.block id c) :: k, e, C => yr P nt n (.code c :: .inBlock id :: k) e C
 | n + 1, .code (.exit id) :: k, e, C => match exitTo id k with
  | some k' => yr P nt n k' e C
  | none => none
 | n + 1, .code (.cond c x y) :: k, e, C => match zaJ c with
  | true => match ev e c with
   | some (.bool true) => yr P nt n (.code x :: k) e C
   | some (.bool false) => yr P nt n (.code y :: k) e C
   | _ => none
  | false => none
 | n + 1, .code (.region _ ops false) :: k, e, C => match xr P ops.toList ops.toList.length (ixd 0 ops.toList.length) e C with
  | some ([], e', C') => yr P nt n k e' (Bo C' (yx ops nt = true))
  | _ => none
 | _ + 1, _, _, _ => none
theorem qBl {P : Program} {f : FuncId} {fn : Func} {K : Ctx} {R : D → St → Prop} {σ : St} {k' : List Item} {e' : Env} {C' : Prop} (hk : Goes P f fn K R k' e' σ) (hC : C') : ∀ (n : Nat) (k : List Item) (e : Env) (C : Prop), yr P fn.ntmps n k e C = some (k', e', C') → C ∧ Goes P f fn K R k e σ := by
 intro n
 induction n with
 | zero =>
  intro k e C h
  simp only [yr, Option.some.injEq, Prod.mk.injEq] at h
  obtain ⟨rfl, rfl, rfl⟩ := h
  exact ⟨hC, hk⟩
 | succ n ih =>
  intro k e C h
  unfold yr at h
  split at h
  cases ‹_ + 1 = 0›
  rename_i hn
  cases hn
  obtain ⟨h1, h2⟩ := ih _ _ _ h
  exact ⟨h1, qai h2⟩
  rename_i hn
  cases hn
  obtain ⟨h1, h2⟩ := ih _ _ _ h
  exact ⟨h1, qnH h2⟩
  rename_i hn
  cases hn
  obtain ⟨h1, h2⟩ := ih _ _ _ h
  exact ⟨h1, qfZ h2⟩
  rename_i hn
  cases hn
  obtain ⟨h1, h2⟩ := ih _ _ _ h
  exact ⟨h1, qy h2⟩
  rename_i hn
  cases hn
  split at h
  rename_i k1 he
  obtain ⟨h1, h2⟩ := ih _ _ _ h
  exact ⟨h1, qnJ he h2⟩
  cases h
  rename_i hn
  cases hn
  split at h
  rename_i ho
  split at h
  rename_i hc
  obtain ⟨h1, h2⟩ := ih _ _ _ h
  exact ⟨h1, qsk hc ho (fun _ => h2) fun h => by cases h⟩
  rename_i hc
  obtain ⟨h1, h2⟩ := ih _ _ _ h
  exact ⟨h1, qsk hc ho (fun h => by cases h) fun _ => h2⟩
  cases h
  cases h
  rename_i hn
  cases hn
  split at h
  rename_i hx
  obtain ⟨h1, h2⟩ := ih _ _ _ h
  exact qE0 (fun Q hQ => qow (r' := []) (Q := Q) (show Run P _ _ Q [] _ σ from hQ) h1.a _ _ _ _ hx) h1.b h2
  cases h
  cases h
theorem qyc {P : Program} {f : FuncId} {fn : Func} {K : Ctx} {R : D → St → Prop} {σ : St} {k k' : List Item} {e e' : Env} {C : Prop} (n : Nat) (h : yr P fn.ntmps n k e True = some (k', e', C)) (hk : Goes P f fn K R k' e' σ) (hC : C := by repeat' (first | exact True.intro | refine Bo.mk ?_ ?_ | exact rfl | (exact aFl) | (exact aTy) | (exact aTz) | kernel_rfl)) : Goes P f fn K R k e σ := (qBl hk hC n k e True h).2
section
variable {P : Program} {X : Env → D → St → Prop} {Q : Env → St → Prop} {l : List Oper} {i : Nat} {o : Oper} {t : Nat} {d : D} {env : Env} {σ : St} {rest : List (Nat × Cls)}
theorem qjz {α : Type} {f : α → D} {x : Operand} {te e : TypeId} {s by_ : Nat} {dx : D} {m : List α} (h : (l[i]?, o.dst, z8 l env o, o.op, ev env x, asL dx) = (some o, some t, some true, .call { callee := .builtin .len, args := #[x], argTypes := #[te] }, some dx, some (m.map f))) (hk : Run P l.toArray X Q rest ((t, .int .i64 (m.length : Int)) :: env) σ) (hE : ElS P te e s by_ := by exact aEl) : Run P l.toArray X Q ((i, .d) :: rest) env σ := by
 simp only [Prod.mk.injEq] at h
 obtain ⟨h1, h2, h3, h4, h5, h6⟩ := h
 exact r_d h1 h2 h3 (qE4 m h4 hE.h h5 (asl h6)) hk
theorem qps {α : Type} {f : α → D} {x ix : Operand} {te e : TypeId} {s by_ : Nat} {dx : D} {m : List α} {k : IntKind} {n : Int} {q : α} (hq : zi m n = some q) (h : (l[i]?, o.dst, z8 l env o, o.op, ev env x, asL dx, ev env ix) = (some o, some t, some true, .indexAddr te x ix, some dx, some (m.map f), some (.int k n))) (hk : Run P l.toArray X Q rest ((t, .ptr (f q)) :: env) σ) (hE : ElS P te e s by_ := by exact aEl) (hall : ∀ a, sz (f a) = s := by exact aAll) (hp : (f q).plain = true := by exact rfl) : Run P l.toArray X Q ((i, .d) :: rest) env σ := by
 simp only [Prod.mk.injEq] at h
 obtain ⟨h1, h2, h3, h4, h5, h6, h7⟩ := h
 exact r_d h1 h2 h3 (qCN m h4 hE.h h5 (asl h6) h7 hq hall hp) hk
def evs (env : Env) : List Operand → Option (List D)
 | [] => some []
 | x :: xs => match ev env x with
  | none => none
  | some d => match evs env xs with
   | none => none
   | some ds => some (d :: ds)
theorem qxk : ∀ (xs : List Operand) (ds : List D), evs env xs = some ds → zar (ev env) xs ds
 | [], ds, h => by
  simp only [evs, Option.some.injEq] at h
  subst h
  exact .nil
 | x :: xs, ds, h => by
  simp only [evs] at h
  split at h
  cases h
  rename_i d hd
  split at h
  cases h
  rename_i ds' hds
  cases h
  exact .cons hd (Wk.refl _) (qxk xs ds' hds)
theorem qdY {f : FuncId} {args : Array Operand} {ats : Array TypeId} {ds : List D} (h : (l[i]?, o.dst, z8 l env o, o.op, evs env args.toList) = (some o, some t, some true, .call { callee := .value (.func f), args := args, argTypes := ats }, some ds)) (hf : callee P f) (hS : zf P f ds d) (hk : Run P l.toArray X Q rest ((t, d) :: env) σ) : Run P l.toArray X Q ((i, .d) :: rest) env σ := by
 simp only [Prod.mk.injEq] at h
 obtain ⟨h1, h2, h3, h4, h5⟩ := h
 exact r_d h1 h2 h3 (qhg h4 hf (qxk _ _ h5) hS) hk
def zaH (env : Env) : List Nat → Option Env
 | [] => some []
 | t :: ts => match lk env t with
  | none => none
  | some d => match zaH env ts with
   | none => none
   | some e => some ((t, d) :: e)
theorem qqD : ∀ (ts : List Nat) (e : Env), zaH env ts = some e → Sub e env
 | [], e, h => by
  simp only [zaH, Option.some.injEq] at h
  subst h
  exact Sub.nil _
 | t :: ts, e, h => by
  simp only [zaH] at h
  split at h
  cases h
  rename_i d hd
  split at h
  cases h
  rename_i e' he
  cases h
  exact Sub.cons' hd (qqD ts e' he)
theorem qab {m : Md} {f : FuncId} {fn : Func} {K : Ctx} {R : D → St → Prop} {k : List Item} {env' : Env} (ts : List Nat) (h : zaH env ts = some env') (hk : zk m P f fn K R k env' σ) : zk m P f fn K R k env σ := quB env' (qqD ts env' h) hk
def resE (env : Env) : List ResultVar → Option (List D)
 | [] => some []
 | .tmp t :: rs => match lk env t with
  | none => none
  | some d => match resE env rs with
   | none => none
   | some ds => some (d :: ds)
 | _ :: _ => none
theorem qAf : ∀ (rs : List ResultVar) (ds : List D), resE env rs = some ds → zaA P env σ rs ds
 | [], ds, h => by
  simp only [resE, Option.some.injEq] at h
  subst h
  exact .nil
 | .tmp t :: rs, ds, h => by
  simp only [resE] at h
  split at h
  cases h
  rename_i d hd
  split at h
  cases h
  rename_i ds' hds
  cases h
  exact .cons (za hd (Wk.refl _)) (qAf rs ds' hds)
 | .cell _ _ :: rs, ds, h => by cases h
theorem qiZ {f : FuncId} {fn : Func} {K : Ctx} {R : D → St → Prop} {k : List Item} {ds : List D} (hf : P.funcs[f]? = some fn) (h : resE env fn.results.toList = some ds) (hR : R (yI ds) σ) : Goes P f fn K R (.code .ret :: k) env σ := qaw hf ds (qAf _ _ h) hR
theorem qEj {f : FuncId} {fn : Func} {R : D → St → Prop} {c : Code} {ds : List D} (hf : P.funcs[f]? = some fn) (hb : fn.body = some c) (h : ∀ K, (K.F0 = fun b => b ∈ yR σ) → Goes P f fn K R [.code c] (zal 0 ds) σ) : Spec P f ds σ R := qBK _ hf hb rfl h
theorem qbZ {te : TypeId} {x y : Operand} {n b : Nat} {τ : St} {d0 : D} (h : (l[i]?, o.dst, z8 l env o, o.op, ev env x, ev env y) = (some o, none, some true, .store te x y, some (.ref b 0 []), some d)) (hσ : σ.Perm (.cell b d0 :: τ)) (hk : Run P l.toArray X Q rest env (.cell b d :: τ)) (ht : TyS P te d.isAgg n := by exact aTy) (hn : sz d = n := by exact aOne) (hn' : sz d0 = n := by exact aOne) (hp : d.plain = true := by exact rfl) : Run P l.toArray X Q ((i, .w) :: rest) env σ := by
 simp only [Prod.mk.injEq] at h
 obtain ⟨h1, h2, h3, h4, h5, h6⟩ := h
 exact qfd h1 h2 h3 (qjX τ h4 h5 h6 (Wk.refl _) hσ ht.h hn hn' hp) hk
def dgc : Nat → Cls
 | 0 => .d
 | 1 => .w
 | 2 => .r
 | _ => .x
def ixc : Nat → Nat → Nat → List (Nat × Cls)
 | _, 0, _ => []
 | i, n + 1, c => (i, dgc (c % 4)) :: ixc (i + 1) n (c / 4)
theorem qAL : ∀ (n i c : Nat), (ixc i n c).map (·.1) = List.range' i n
 | 0, i, c => rfl
 | n + 1, i, c => by rw [ixc, jm, qAL n (i + 1), List.range'_succ]
theorem ze {f : FuncId} {fn : Func} {K : Ctx} {R : D → St → Prop} {k : List Item} {id : Nat} (n c : Nat) (h : Run P l.toArray (fun _ => K.X) (Goes P f fn K R k) (ixc 0 n c) env σ) (hok : yx l.toArray fn.ntmps = true := by kernel_rfl) (hn : l.length = n := by exact rfl) : Goes P f fn K R (.code (.region id l.toArray false) :: k) env σ := qBU hok (ixc 0 n c) (by rw [qAL, hn, Je]) h
theorem qdH {m : Md} {f : FuncId} {fn : Func} {K : Ctx} {R : D → St → Prop} {k : List Item} {id : Nat} (n c : Nat) (h : Run P l.toArray NX (zk m P f fn K R k) (ixc 0 n c) env σ) (hm : P.follows .mixedOrders = true := by kernel_rfl) (hok : yx l.toArray fn.ntmps = true := by kernel_rfl) (hA : yS l.toArray (ixc 0 n c) = true := by kernel_rfl) (hx : (ixc 0 n c).all (fun x => decide (x.2 ≠ .x)) = true := by rfl) : zk m P f fn K R (.code (.region id l.toArray true) :: k) env σ := qEq hm hok (ixc 0 n c) hA h hx
def mv {α : Type} : List Nat → List α → List α
 | [], l => l
 | k :: ks, l => match l[k]? with
  | none => l
  | some x => mv ks (x :: l.eraseIdx k)
theorem mv1 {α : Type} : ∀ (k : Nat) (l : List α) (x : α), l[k]? = some x → l.Perm (x :: l.eraseIdx k)
 | _, [], x, h => by simp at h
 | 0, a :: l, x, h => by
  cases h
  exact .refl _
 | k + 1, a :: l, x, h => ((mv1 k l x (by simpa using h)).cons a).trans (.swap _ _ _)
theorem pS {α : Type} : ∀ (ks : List Nat) (l : List α), l.Perm (mv ks l)
 | [], l => .refl _
 | k :: ks, l => by
  unfold mv
  split
  exact .refl _
  rename_i x hx
  exact (mv1 k l x hx).trans (pS ks _)
theorem sbr {e : Env} (h : zaH env (e.map vm) = some e) : Sub e env := qqD _ _ h
theorem pk0 {α : Type} {l m : List α} (a : α) (h : l.Perm m) : (a :: l).Perm (a :: m) := h.cons a
theorem pk1 {α : Type} {l m : List α} (a b : α) (h : (a :: l).Perm m) : (a :: b :: l).Perm (b :: m) := (pf1 _ _ _).trans (h.cons b)
theorem pk2 {α : Type} {l m : List α} (a b c : α) (h : (a :: b :: l).Perm m) : (a :: b :: c :: l).Perm (c :: m) := (pf2 _ _ _ _).trans (h.cons c)
theorem pk3 {α : Type} {l m : List α} (a b c d : α) (h : (a :: b :: c :: l).Perm m) : (a :: b :: c :: d :: l).Perm (d :: m) := (pf3 _ _ _ _ _).trans (h.cons d)
theorem pk4 {α : Type} {l m : List α} (a b c d e : α) (h : (a :: b :: c :: d :: l).Perm m) : (a :: b :: c :: d :: e :: l).Perm (e :: m) := (pf4 _ _ _ _ _ _).trans (h.cons e)
theorem pkz {α : Type} {l m : List α} (h : l.Perm m := by repeat' (first | exact .nil | refine pk0 _ ?_ | refine pk1 _ _ ?_ | refine pk2 _ _ _ ?_ | refine pk3 _ _ _ _ ?_ | refine pk4 _ _ _ _ _ ?_)) : l.Perm m := h
theorem qbR {te : TypeId} {x : Operand} {b off n : Nat} {path : List Nat} {d0 : D} (j : Nat) (h : (l[i]?, o.dst, z8 l env o, o.op, ev env x, σ[j]?, yX d0 path, yt d0 path) = (some o, some t, some true, .load te x, some (.ref b off path), some (.cell b d0), some d, off)) (hk : Run P l.toArray X Q rest ((t, d) :: env) σ) (ht : TyS P te d.isAgg n := by exact aTy) (hn : sz d = n := by exact aOne) : Run P l.toArray X Q ((i, .r) :: rest) env σ := by
 simp only [Prod.mk.injEq] at h
 obtain ⟨h1, h2, h3, h4, h5, h6, h7, h8⟩ := h
 exact r_r h1 h2 h3 (qey h4 h5 (List.mem_of_getElem? h6) h7 h8 ht.h hn) hk
theorem zbb {te : TypeId} {x : Operand} {b off n : Nat} {path : List Nat} {d0 : D} (j : Nat) (h : (l[i]?, o.dst, z8 l env o, o.op, ev env x, σ[j]?, yX d0 path, yt d0 path) = (some o, some t, some true, .load te x, some (.ref b off path), some (.cell b d0), some d, off)) (hk : Run P l.toArray X Q rest ((t, d) :: env) σ) (ht : TyS P te d.isAgg n := by exact aTy) (hn : sz d = n := by exact aOne) : Run P l.toArray X Q ((i, .w) :: rest) env σ := by
 simp only [Prod.mk.injEq] at h
 obtain ⟨h1, h2, h3, h4, h5, h6, h7, h8⟩ := h
 exact zbu h1 h2 h3 (qey h4 h5 (List.mem_of_getElem? h6) h7 h8 ht.h hn) hk
theorem qnL {tt t2 : TypeId} {x y : Operand} {j : Nat} (h : (l[i]?, o.dst, z8 l env o, o.op, ev env x, ev env y) = (some o, some t, some true, .binOp .add tt x y t2, some (.int .i64 (j : Int)), some (.int .i64 1))) (hk : Run P l.toArray X Q rest ((t, .int .i64 ((j + 1 : Nat) : Int)) :: env) σ) (hj : j < 9223372036854775807 := by omega) : Run P l.toArray X Q ((i, .d) :: rest) env σ := by
 simp only [Prod.mk.injEq] at h
 obtain ⟨h1, h2, h3, h4, h5, h6⟩ := h
 exact r_d h1 h2 h3 (zbs (r := ((j + 1 : Nat) : Int)) h4 h5 h6 (by simp [iar]) oa) hk
theorem hkc {m : Md} {f : FuncId} {fn : Func} {K : Ctx} {R : D → St → Prop} {k : List Item} {J : Env → St → Prop} (hk : ∀ e s, J e s → zk m P f fn K R k e s) (hJ : J env σ) : zk m P f fn K R k env σ := hk _ _ hJ
theorem hks {m : Md} {f : FuncId} {fn : Func} {K : Ctx} {R : D → St → Prop} {k : List Item} {J : Env → St → Prop} {E : Env} (hk : ∀ e s, J e s → zk m P f fn K R k e s) (hJ : J E σ) (hs : zaH env (E.map vm) = some E) : zk m P f fn K R k env σ := quB _ (sbr hs) (hk _ _ hJ)
theorem ihs {m : Md} {f : FuncId} {fn : Func} {K : Ctx} {R : D → St → Prop} {k : List Item} {I : Nat → Env → St → Prop} {E : Env} {n n' : Nat} (hk : ∀ n' e s, n' < n → I n' e s → zk m P f fn K R k e s) (hI : I n' E σ) (hl : n' < n) (hs : zaH env (E.map vm) = some E) : zk m P f fn K R k env σ := quB _ (sbr hs) (hk _ _ _ hl hI)
theorem g_cT {m : Md} {f : FuncId} {fn : Func} {K : Ctx} {R : D → St → Prop} {k : List Item} {c : Operand} {x y : Code} {b : Bool} (hc : ev env c = some (.bool b)) (hb : b = true) (h : zk m P f fn K R (.code x :: k) env σ) : zk m P f fn K R (.code (.cond c x y) :: k) env σ := qf1 (by rw [hc, hb]) h
theorem g_cF {m : Md} {f : FuncId} {fn : Func} {K : Ctx} {R : D → St → Prop} {k : List Item} {c : Operand} {x y : Code} {b : Bool} (hc : ev env c = some (.bool b)) (hb : b = false) (h : zk m P f fn K R (.code y :: k) env σ) : zk m P f fn K R (.code (.cond c x y) :: k) env σ := qhR (by rw [hc, hb]) h
theorem qCn {f : FuncId} {fn : Func} {K : Ctx} {R : D → St → Prop} {k : List Item} {id : Nat} (h : Run P l.toArray (fun _ => K.X) (Goes P f fn K R k) (ixd 0 l.length) env σ) (hok : yx l.toArray fn.ntmps = true := by kernel_rfl) : Goes P f fn K R (.code (.region id l.toArray false) :: k) env σ := qt6 l.length h hok rfl
structure Bx (H : Prop) : Prop where
 h : H
theorem st {G H : Prop} (h : H) (e : Bx H → G := by intro h; (repeat (first | refine qac ?_ | refine qd 1 rfl ?_ | refine qjz rfl ?_ | refine qnL rfl ?_ | refine qps (by assumption) rfl ?_ | ((fail_if_success (refine hkc (by assumption) ?_)); (first | refine qai ?_ | refine qnH ?_ | refine qfZ ?_ | refine qnJ rfl ?_ | refine qf1 rfl ?_ | refine qhR rfl ?_ | refine g_cT rfl (by assumption) ?_ | refine g_cF rfl (by assumption) ?_ | refine qCn ?_)))); exact h.h) : G := e ⟨h⟩
theorem st0 {G H : Prop} (h : H) (e : Bx H → G := by intro h; (repeat (first | refine qac ?_ | refine qd 1 rfl ?_ | refine qjz rfl ?_ | refine qnL rfl ?_ | refine qps (by assumption) rfl ?_ | ((fail_if_success (refine hkc (by assumption) ?_)); (first | refine qai ?_ | refine qnH ?_ | refine qfZ ?_ | refine qnJ rfl ?_ | refine qf1 rfl ?_ | refine qhR rfl ?_ | refine g_cT rfl (by assumption) ?_ | refine g_cF rfl (by assumption) ?_)))); exact h.h) : G := e ⟨h⟩
theorem zj {α β : Type} {c : Option α} {g : α → Option β} {v : β} {f : FuncId} {args : Array Operand} {ats : Array TypeId} {ds : List D} {en : α → D} (hr : c.bind g = some v) (h : (l[i]?, o.dst, z8 l env o, o.op, evs env args.toList) = (some o, some t, some true, .call { callee := .value (.func f), args := args, argTypes := ats }, some ds)) (hf : callee P f) (hS : ∀ r, c = some r → zf P f ds (en r)) (hk : ∀ r, c = some r → g r = some v → Run P l.toArray X Q rest ((t, en r) :: env) σ) : Run P l.toArray X Q ((i, .d) :: rest) env σ := by
 obtain ⟨r, h1, h2⟩ := zd hr
 exact qdY h hf (hS r h1) (hk r h1 h2)
theorem qx {f : FuncId} {fn : Func} {R : D → St → Prop} {c : Code} {ds : List D} (hf : P.funcs[f]? = some fn) (hb : fn.body = some c) (h : ∀ K, (K.F0 = fun b => b ∈ yR σ) → P.funcs[f]? = some fn → Goes P f fn K R [.code c] (zal 0 ds) σ) : Spec P f ds σ R := qEj hf hb fun K hK => h K hK hf
theorem fin {α : Type} {a b : Option α} {G : Prop} (hr : a = b) (e : a = b → G := by
 intro hr
 (repeat (first | refine qac ?_ | refine qd 1 rfl ?_ | refine qjz rfl ?_ | refine qnL rfl ?_ | refine qps (by assumption) rfl ?_ | ((fail_if_success (refine hkc (by assumption) ?_)); (first | refine qai ?_ | refine qnH ?_ | refine qfZ ?_ | refine qnJ rfl ?_ | refine qf1 rfl ?_ | refine qhR rfl ?_ | refine g_cT rfl (by assumption) ?_ | refine g_cF rfl (by assumption) ?_ | refine qCn ?_))))
 first
 | (cases hr; refine qiZ (by assumption) rfl ?_; rfl)
 | (refine hks (E := ?_) (by assumption) ?_ ?_; rotate_left; (repeat' (first | exact hr | exact rfl | apply Exists.intro | refine And.intro ?_ ?_)); all_goals (first | assumption | omega))
 | (refine ihs (E := ?_) (n' := ?_) (by assumption) ?_ ?_ ?_; rotate_left 2; (repeat' (first | exact hr | exact rfl | apply Exists.intro | refine And.intro ?_ ?_)); all_goals (first | assumption | omega))) : G := e hr
end
def qcc (k : Option Bool) (a1 : Int) : List Int → Option Bool
 | [] =>
 k
 | q_2 :: rest =>
 (bif (q_2 == a1) then
 some (true)
 else
 (qcc k a1 rest))
def qf8 (a0 : List Int) (a1 : Int) : Option Bool :=
 (qcc (some (false)) a1 a0)
theorem qmN (a0 : List Int) (a1 : Int) (a : Bool) (hr : qf8 a0 a1 = some a) : zf Tryz.prog 128 [.lst (a0.map (D.int .i64)), .int .i64 a1] (.bool a) := by
 unfold qf8 at hr
 refine qx Tryz.func128 rfl fun K i j => ?_
 refine st ?_
 obtain ⟨c, d, hr⟩ := exK (fun k => qcc k a1 a0) hr
 refine qct 0 rfl (asl rfl) fun e => ?_
 simp only [jb] at e
 refine qq (fun env σ => env = [] ∧ σ = [] ∧ c = some a) ?_ (fun l => ?_)
 rintro _ _ ⟨rfl, rfl, hr⟩
 rw [d] at hr
 exact fin hr
 refine qab [0, 1, 5] rfl (qR (fun n env σ => ∃ (i1 : Nat), n = a0.length - i1 ∧ (env = [(0, .lst (a0.map (D.int .i64))), (1, .int .i64 a1), (5, .int .i64 (i1 : Int))]) ∧ (σ = []) ∧ (i1 ≤ a0.length) ∧ (qcc c a1 (a0.drop i1) = some a)) _ ⟨0, rfl, rfl, rfl, jc _, hr⟩ ?_)
 rintro n _ _ ⟨i1, rfl, rfl, rfl, g, hr⟩ m
 rcases zb a0 i1 g with ⟨h, b, o⟩ | ⟨q_2, h, b, p, q⟩
 rw [b, qcc] at hr
 exact fin hr
 rw [b, qcc] at hr
 refine st ?_
 refine qy ?_
 refine st ?_
 refine zh 17 rfl hr (fun _ hr => ?_) (fun _ hr => ?_)
 exact fin hr
 exact fin hr
def qel (a0 : T) : Option (List T) :=
 (bif (a0.k == (2 : Int)) then
 some (a0.ar)
 else
 some ([]))
theorem qmc (a0 : T) (a : List T) (hr : qel a0 = some a) : zf Tryz.prog 94 [zl a0] (.lst (a.map zl)) := by
 unfold qel at hr
 refine qx Tryz.func94 rfl fun K b c => ?_
 refine st ?_
 refine rd rfl (qcG rfl rfl rfl) ?_
 refine st ?_
 refine rd rfl (qG rfl qcC rfl (qgp _) (qgk _) rfl) ?_
 refine st ?_
 refine zh 5 rfl hr (fun _ hr => ?_) (fun _ hr => ?_)
 refine st ?_
 refine rd rfl (qG rfl qcx rfl (qhm _) (qhl _) rfl) ?_
 exact fin hr
 refine st ?_
 cases hr
 refine qaw Tryz.func94 _ (.cons (za rfl (Wk.full _)) .nil) ?_
 rfl
def qaq (k : List Int → Option (List Int)) (rec : List Int → T → Option (List Int)) : List T → List Int → Option (List Int)
 | [], l6 =>
 (k l6)
 | q_10 :: rest, l6 =>
 ((rec l6 q_10).bind fun r11 =>
 (qaq k rec rest r11))
def qcT (k : List Int → Option (List Int)) (a0 : List Int) (a1 : T) : Option (List Int) :=
 (bif (a1.k == (1 : Int)) then
 ((qf8 a0 a1.i).bind fun r14 =>
 (bif (!r14) then
 ((zF 8 a0 [a1.i]).bind fun l16 =>
 (k l16))
 else
 (k a0)))
 else
 (k a0))
def qcu : Nat → List Int → T → Option (List Int)
 | 0, _, _ => none
 | fuel + 1, a0, a1 =>
  (fun (rec : List Int → T → Option (List Int)) =>
   (qcT (fun l3 =>
   ((qel a1).bind fun r4 =>
   (qaq (fun l9 =>
   some (l9)) rec r4 l3))) a0 a1)) (qcu fuel)
theorem qkr (fuel : Nat) (rec : List Int → T → Option (List Int)) (IHR : ∀ (a0 : List Int) (a1 : T) (b : Value) (a : List Int), rec a0 a1 = some a → Spec Tryz.prog 96 [.own b (a0.map (D.int .i64)), zl a1] [.row b a0.length 3 1] (fun d σ => ∃ (u_o0' : Value), d = .own u_o0' (a.map (D.int .i64)) ∧ σ = [.row u_o0' a.length 3 1])) (a0 : List Int) (a1 : T) (b : Value) (a : List Int)
 (hr : (qcT (fun l3 =>
((qel a1).bind fun r4 =>
(qaq (fun l9 =>
some (l9)) rec r4 l3))) a0 a1) = some a) : Spec Tryz.prog 96 [.own b (a0.map (D.int .i64)), zl a1] [.row b a0.length 3 1] (fun d σ => ∃ (u_o0' : Value), d = .own u_o0' (a.map (D.int .i64)) ∧ σ = [.row u_o0' a.length 3 1]) := by
 refine qx Tryz.func96 rfl fun K m o => (qai (ze 2 4 (rd rfl (qcG rfl rfl rfl) (ew rfl (qN 3 1 (.inl rfl)) ?_))))
 rintro _ _ ⟨u4_0, rfl, rfl⟩
 refine qac ?_
 obtain ⟨kkJ0, hkkJ0, hr⟩ := exK (fun k => qcT k a0 a1) hr
 refine qqs (fun env σ => ∃ (l3 : List Int) (u2 : Value), env = [(0, .own u2 (l3.map (D.int .i64))), (3, .ptr (zl a1))] ∧ σ = [.row u2 l3.length 3 1] ∧ kkJ0 l3 = some a) ?_ (fun HKJ0 => ?_)
 rintro _ _ ⟨l3, u2, rfl, rfl, hr⟩
 rw [hkkJ0] at hr
 refine st ?_
 refine zj hr rfl qmq (qmc _) (fun r4 h4 hr => ?_)
 refine st ?_
 obtain ⟨e, g, hr⟩ := exK (fun k => qaq k rec r4 l3) hr
 refine qct 23 rfl (asl rfl) fun h => ?_
 simp only [jb] at h
 refine qq (fun env σ => ∃ (l9 : List Int) (u8 : Value), env = [(0, .own u8 (l9.map (D.int .i64)))] ∧ σ = [.row u8 l9.length 3 1] ∧ e l9 = some a) ?_ (fun p => ?_)
 rintro _ _ ⟨l9, u8, rfl, rfl, hr⟩
 rw [g] at hr
 refine st ?_
 cases hr
 refine qiZ Tryz.func96 rfl ?_
 exact ⟨u8, rfl, rfl⟩
 refine qab [5, 0, 6] rfl (qR (fun n env σ => ∃ (l6 : List Int) (i7 : Nat) (u5 : Value), n = r4.length - i7 ∧ (env = [(5, .lst (r4.map zl)), (0, .own u5 (l6.map (D.int .i64))), (6, .int .i64 (i7 : Int))]) ∧ (σ = [.row u5 l6.length 3 1]) ∧ (i7 ≤ r4.length) ∧ (qaq e rec (r4.drop i7) l6 = some a)) _ ⟨l3, 0, u2, rfl, rfl, rfl, jc _, hr⟩ ?_)
 rintro n _ _ ⟨l6, i7, u5, rfl, rfl, rfl, j, hr⟩ q
 rcases zb r4 i7 j with ⟨l, c, r⟩ | ⟨q_10, l, c, s, t⟩
 rw [c, qaq] at hr
 exact fin hr
 rw [c, qaq] at hr
 refine st ?_
 refine qy (ze 7 1024 ?_)
 refine st ?_
 obtain ⟨r11, h11, hr⟩ := zd hr
 refine ew rfl (qiP _ rfl qg2 (.oc rfl (.oc rfl .nil)) (by exact (pf0 _)) (IHR _ _ _ _ h11)) ?_
 rintro _ _ ⟨_, ⟨u35_11, rfl, rfl⟩, rfl⟩
 refine y7 ((.row u35_11 r11.length 3 1) :: _) rfl ?_
 exact fin hr
 unfold qcT at hr
 refine st ?_
 refine rd rfl (qG rfl qcC rfl (qgp _) (qgk _) rfl) (qd 3 rfl ?_)
 refine zo 10 rfl hr (fun _ hr => ?_) (fun _ hr => ?_)
 refine qd 1 rfl (rd rfl (qG rfl qcI rfl (qgv _) (qgu _) rfl) (qd 1 rfl ?_))
 obtain ⟨r14, h14, hr⟩ := zd hr
 refine rd rfl (qhg rfl qmO (.cons rfl (Wk.own _ _) (.oc rfl .nil)) (qmN _ _ _ h14)) ?_
 refine st ?_
 refine zh 16 rfl hr (fun _ hr => ?_) (fun _ hr => ?_)
 refine qf1 rfl (ze 6 256 (qd 1 rfl (rd rfl (qG rfl qcI rfl (qgv _) (qgu _) rfl) (qd 1 rfl (rd rfl (qet (f := (D.int .i64)) [.tmp 19] [a1.i] rfl qaS rfl rfl od od (.oc rfl .nil) (fun _ => rfl) (fun _ => rfl)) ?_)))))
 obtain ⟨l16, h16, hr⟩ := zd hr
 refine ew rfl (qah (f := (D.int .i64)) a0 [a1.i] rfl qaS rfl rfl (asl rfl) (pf1 _ _ _) rfl (fun _ => rfl) h16) ?_
 rintro _ _ ⟨u21_16, rfl, rfl⟩
 refine qd 1 rfl (qac (qab [0, 3] rfl (qbA [_] _ (pf0 _) ?_)))
 exact HKJ0 _ _ ⟨l16, u21_16, rfl, rfl, hr⟩
 refine qhR rfl (qnH (qab [0, 3] rfl (qbA [_] _ (pf1 _ _ _) ?_)))
 exact HKJ0 _ _ ⟨a0, b, rfl, rfl, hr⟩
 refine qd 6 rfl (qac (qhR rfl (qnH (qab [0, 3] rfl (qbA [_] _ (pf1 _ _ _) ?_)))))
 exact HKJ0 _ _ ⟨a0, b, rfl, rfl, hr⟩
theorem qgb : ∀ (fuel : Nat) (a0 : List Int) (a1 : T) (u_o0 : Value) (res : List Int), qcu fuel a0 a1 = some res → Spec Tryz.prog 96 [.own u_o0 (a0.map (D.int .i64)), zl a1] [.row u_o0 a0.length 3 1] (fun d σ => ∃ (u_o0' : Value), d = .own u_o0' (res.map (D.int .i64)) ∧ σ = [.row u_o0' res.length 3 1])
 | 0, _, _, _, _, h => by cases h
 | fuel + 1, a0, a1, u_o0, res, h => qkr fuel (qcu fuel) (qgb fuel) a0 a1 u_o0 res h
def qdA (fuel : Nat) (a0 : T) : Option (List Int) :=
 ((qcu fuel [] a0).bind fun r1 =>
 some (r1))
theorem qgX (fuel : Nat) (a0 : T) (res : List Int) (hr : qdA fuel a0 = some res) : zf Tryz.prog 106 [zl a0] (.lst (res.map (D.int .i64))) := by
 unfold qdA at hr
 refine qx Tryz.func106 rfl fun K hK hF => ?_
 refine st ?_
 refine rd rfl (qcG rfl rfl rfl) (qd 1 rfl (qac (qai (qox 3 1 (ze 3 4 (qd 1 rfl ?_))))))
 obtain ⟨r1, h1, hr⟩ := zd hr
 refine ew rfl (qiP _ rfl qg2 (.consN (.oc rfl .nil)) (by exact (pf0 _)) (qgb fuel _ _ _ _ h1)) ?_
 rintro _ _ ⟨_, ⟨u4_1, rfl, rfl⟩, rfl⟩
 refine y7 ((.row u4_1 r1.length 3 1) :: _) rfl ?_
 refine st ?_
 cases hr
 refine qaw Tryz.func106 _ (.cons (za rfl (Wk.own _ _)) .nil) ?_
 rfl
def qbu (k : List Int → Option (List Int)) (fuel : Nat) : List T → List Int → Option (List Int)
 | [], o4 =>
 (k o4)
 | q_8 :: rest, o4 =>
 ((qcu fuel o4 q_8).bind fun r9 =>
 (qbu k fuel rest r9))
def qbD (fuel : Nat) (a0 : List T) : Option (List Int) :=
 (qbu (fun o7 =>
 some (o7)) fuel a0 [])
theorem qfs (fuel : Nat) (a0 : List T) (a : List Int) (hr : qbD fuel a0 = some a) : zf Tryz.prog 62 [.lst (a0.map zl)] (.lst (a.map (D.int .i64))) := by
 unfold qbD at hr
 refine qx Tryz.func62 rfl fun K i j => (qai (ze 1 1 (ew rfl (qN 3 1 (.inl rfl)) ?_)))
 rintro _ _ ⟨u2_0, rfl, rfl⟩
 refine st0 ?_
 refine ze 1 1 (ew rfl (qN 3 1 (.inl rfl)) ?_)
 rintro _ _ ⟨u3_1, rfl, rfl⟩
 refine st ?_
 obtain ⟨c, d, hr⟩ := exK (fun k => qbu k fuel a0 []) hr
 refine qct 0 rfl (asl rfl) fun e => ?_
 simp only [jb] at e
 refine qq (fun env σ => ∃ (o7 : List Int) (u6 : Value), env = [(3, .own u6 (o7.map (D.int .i64)))] ∧ σ = [.row u6 o7.length 3 1] ∧ c o7 = some a) ?_ (fun l => ?_)
 rintro _ _ ⟨o7, u6, rfl, rfl, hr⟩
 rw [d] at hr
 refine st ?_
 cases hr
 refine qaw Tryz.func62 _ (.cons (za rfl (Wk.own _ _)) .nil) ?_
 rfl
 refine qab [0, 3, 4] rfl (qbA [_] _ (pf0 _) (qR (fun n env σ => ∃ (o4 : List Int) (i5 : Nat) (u3 : Value), n = a0.length - i5 ∧ (env = [(0, .lst (a0.map zl)), (3, .own u3 (o4.map (D.int .i64))), (4, .int .i64 (i5 : Int))]) ∧ (σ = [.row u3 o4.length 3 1]) ∧ (i5 ≤ a0.length) ∧ (qbu c fuel (a0.drop i5) o4 = some a)) _ ⟨[], 0, u3_1, rfl, rfl, rfl, jc _, hr⟩ ?_))
 rintro n _ _ ⟨o4, i5, u3, rfl, rfl, rfl, g, hr⟩ m
 rcases zb a0 i5 g with ⟨h, b, o⟩ | ⟨q_8, h, b, p, q⟩
 rw [b, qbu] at hr
 exact fin hr
 rw [b, qbu] at hr
 refine st ?_
 refine qy (ze 7 1024 ?_)
 refine st ?_
 obtain ⟨r9, h9, hr⟩ := zd hr
 refine ew rfl (qiP _ rfl qg2 (.oc rfl (.oc rfl .nil)) (by exact (pf0 _)) (qgb fuel _ _ _ _ h9)) ?_
 rintro _ _ ⟨_, ⟨u16_9, rfl, rfl⟩, rfl⟩
 refine y7 ((.row u16_9 r9.length 3 1) :: _) rfl ?_
 exact fin hr
end
end Go.Proofs.YtamoolpdganckaaGreat
