/-
  Texts of the seat, merged.
-/
import Derived.Test.YtdoljfkjdfaakaaGreatLTA
import Derived.Test.YtdoljfkjdfaakaaGreatChecked
import Derived.WalkKit
import Derived.Lib.Hide
import Derived.Lib.AppendStr
import Derived.Deep.AppendLies
import Derived.Deep.AppendSrc
import Derived.Deep.Draws
import Derived.Deep.QuietTactic
import Derived.BigQuiet
import Derived.Deep.RegionWith
import Derived.Maps.AppendAt
import Derived.WalkSpells
import Derived.Orders
import Derived.Deep.Slices
import Derived.Deep.Fields
import Derived.ChangeArms
import Derived.Lib.OthersKept
import Derived.Lib.TrimU
import Derived.Lib.IndexAny
import Derived.Deep.LoopGhost
import Derived.Lib.Bytealg
import Derived.RangeFuncBox
import Derived.RangeFuncNested
import Derived.RangeFuncBound
import Derived.RangeFuncCalls
import Derived.RangeFuncLeaves
import Derived.Shelf.Abstract
import Derived.OwnWalkIn
import Derived.TacticsInMore
import Derived.LoopNIn
import Derived.LoopIn
import Derived.RangeFuncWrites
import Derived.Maps.OwnIn
import Derived.Maps.Views
import Derived.Laws.OwnMore
import Derived.Maps.OwnSet
import Derived.Laws.IdiomStrings
import Derived.Test.YtdoljfkjdfaakaaGreatRows
import Derived.ProofKit
import Derived.OpenShut
import Derived.Carry
import Derived.OrdersIn
import Derived.Great.BuildSlice
set_option linter.unusedVariables false
set_option linter.unusedSimpArgs false
set_option linter.unnecessarySimpa false
set_option linter.all false
namespace Go.Proofs.YtdoljfkjdfaakaaGreat
set_option maxRecDepth 100000
open Go.RowKit
def cmpA (a b : At) : Int := orI (orI (cmpS a.n b.n) (cmpI a.ts.length b.ts.length)) (cmpL a.ts b.ts)
set_option maxHeartbeats 1000000 in
theorem qmT (n : Nat) (hM : n ≤ 1000000000) (a b : At) (v x : Value) (w : World) (hn : wtL a.ts ≤ n) (hv : VA w a v) (hx : VA w b x) : Calls Tryz.prog 208 #[v, x] w (Ret w (Is (.int .i64 (cmpA a b)))) := by
  obtain ⟨sa, rfl, hsa, -⟩ := hv.open_
  obtain ⟨sb, rfl, hsb, -⟩ := hx.open_
  have hC := hide (fun (w' : World) (e : Ext w w') => qnY n hM a.ts b.ts sa sb w' hn (hsa.ext e) (hsb.ext e))
  obtain ⟨Aa, ca, xsa, rfl, -⟩ := hsa
  obtain ⟨Ab, cb, xsb, rfl, -⟩ := hsb
  clear hv hx hn
  obtain ⟨y, hy⟩ : ∃ y, ((w.alloc (.cells #[.string a.n, .slice Aa a.ts.length ca] 107)).alloc (.cells #[.string b.n, .slice Ab b.ts.length cb] 107)) = y := ⟨_, rfl⟩
  have HE : Hid (Ext w y) := Lib.hid (by rw [← hy]; exact (((Ext.rfl' w).al _).al _))
  have ba0 : y.cell? ⟨w.heap.size, 0, none⟩ = some (.string a.n) := by rw [← hy]; exact ((Ext.rfl' _).al _).cellOf (qkF w #[.string a.n, .slice Aa a.ts.length ca] 107 0 _ (w.heap.size) (by simp) rfl)
  have ba1 : y.cell? ⟨w.heap.size, 1, none⟩ = some (.slice Aa a.ts.length ca) := by rw [← hy]; exact ((Ext.rfl' _).al _).cellOf (qkF w #[.string a.n, .slice Aa a.ts.length ca] 107 1 _ (w.heap.size) (by simp) rfl)
  have bb0 : y.cell? ⟨w.heap.size + 1, 0, none⟩ = some (.string b.n) := by rw [← hy]; exact qkF (w.alloc (.cells #[.string a.n, .slice Aa a.ts.length ca] 107)) #[.string b.n, .slice Ab b.ts.length cb] 107 0 _ (w.heap.size + 1) (by simp) rfl
  have bb1 : y.cell? ⟨w.heap.size + 1, 1, none⟩ = some (.slice Ab b.ts.length cb) := by rw [← hy]; exact qkF (w.alloc (.cells #[.string a.n, .slice Aa a.ts.length ca] 107)) #[.string b.n, .slice Ab b.ts.length cb] 107 1 _ (w.heap.size + 1) (by simp) rfl
  obtain ⟨p, hp⟩ : ∃ p, cmpS a.n b.n = p := ⟨_, rfl⟩
  obtain ⟨q, hq⟩ : ∃ q, cmpI a.ts.length b.ts.length = q := ⟨_, rfl⟩
  have HP := Lib.hid hp
  have HQ := Lib.hid hq
  have HA : Hid (cmpA a b = orI (orI p q) (cmpL a.ts b.ts)) := Lib.hid (by unfold cmpA; rw [hp, hq])
  clear hp hq
  by_cases h0 : p = 0
  · have hb0 : (p == 0) = true := by simpa using h0
    by_cases h1 : q = 0
    · have hb1 : (q == 0) = true := by simpa using h1
      have hlen : Hid (a.ts.length = b.ts.length) := Lib.hid (by
        have := qi0 (HQ.out.trans h1)
        omega)
      have HZ : Hid (cmpA a b = listsT a.ts b.ts) := Lib.hid (by rw [HA.out, qkN hlen.out]; unfold orI; simp [h0, h1])
      clear h0 h1
      go_enter Tryz.func208, Tryz.ntmps208
      go_wp2_with fail
      refine (qjl _ _ _).mono ?_
      rintro e w1 ⟨rfl, rfl⟩
      rw [HP.out]
      go_wp2_with fail
      refine (qdZ _ _ _).mono ?_
      rintro e w2 ⟨rfl, rfl⟩
      rw [HQ.out]
      go_wp2_with fail
      refine ((unhide hC) _ HE.out).mono ?_
      rintro e w4 ⟨v, rfl, hv, he⟩
      obtain rfl : v = _ := hv
      have he := hide (HE.out.tr he)
      go_wp2
      go_ret
      rw [HZ.out]
      exact Ret.mk rfl (unhide he)
    · have hb1 : (q == 0) = false := by simpa using h1
      have HZ : Hid (cmpA a b = q) := Lib.hid (by rw [HA.out]; unfold orI; simp [h0, h1])
      clear h0 h1
      go_enter Tryz.func208, Tryz.ntmps208
      go_wp2_with fail
      refine (qjl _ _ _).mono ?_
      rintro e w1 ⟨rfl, rfl⟩
      rw [HP.out]
      go_wp2_with fail
      refine (qdZ _ _ _).mono ?_
      rintro e w2 ⟨rfl, rfl⟩
      rw [HQ.out]
      go_wp2
      go_ret
      rw [HZ.out]
      exact Ret.mk rfl HE.out
  · have hb0 : (p == 0) = false := by simpa using h0
    have HZ : Hid (cmpA a b = p) := Lib.hid (by rw [HA.out]; unfold orI; simp [h0])
    clear h0
    go_enter Tryz.func208, Tryz.ntmps208
    go_wp2_with fail
    refine (qjl _ _ _).mono ?_
    rintro e w1 ⟨rfl, rfl⟩
    rw [HP.out]
    go_wp2
    go_ret
    rw [HZ.out]
    exact Ret.mk rfl HE.out
theorem qml (n : Nat) (hM : n ≤ 1000000000) (a b : At) (v x : Value) (w : World) (hn : wtL a.ts ≤ n) (hv : VA w a v) (hx : VA w b x) : Calls Tryz.prog 166 #[v, x] w (Ret w (Is (.bool (cmpA a b == 0)))) := by
  have hC := hide (fun (w' : World) (e : Ext w w') => qmT n hM a b v x w' hn (hv.ext e) (hx.ext e))
  obtain ⟨sa, rfl, hsa, -⟩ := hv.open_
  obtain ⟨sb, rfl, hsb, -⟩ := hx.open_
  obtain ⟨Aa, ca, xsa, rfl, -⟩ := hsa
  obtain ⟨Ab, cb, xsb, rfl, -⟩ := hsb
  have HE := hide (fun o p => ((Ext.rfl' w).al o).al p)
  clear hv hx hn
  go_enter Tryz.func166, Tryz.ntmps166
  go_wp2_with fail
  refine ((unhide hC) _ ((unhide HE) _ _)).mono ?_
  rintro e w1 ⟨v, rfl, hv, he⟩
  obtain rfl : v = _ := hv
  have he := hide (((unhide HE) _ _).tr he)
  generalize cmpA a b = q at *
  go_wp2
  go_ret
  exact Ret.mk rfl (unhide he)
theorem qnd (n : Nat) (hM : n ≤ 1000000000) (ts us : List T) (v x : Value) (w : World) (hn : wtL ts ≤ n) (hv : SlT w ts v) (hx : SlT w us x) : Calls Tryz.prog 207 #[v, x] w (Ret w (Is (.bool (listsT ts us == 0)))) := by
  have hC := hide (qnY n hM ts us v x w hn hv hx)
  obtain ⟨Aa, ca, xsa, rfl, -⟩ := hv
  obtain ⟨Ab, cb, xsb, rfl, -⟩ := hx
  clear hn
  go_enter Tryz.func207, Tryz.ntmps207
  go_wp2_with fail
  refine (unhide hC).mono ?_
  rintro e w1 ⟨v, rfl, hv, he⟩
  obtain rfl : v = _ := hv
  generalize listsT ts us = q at *
  have he := hide he
  go_wp2
  go_ret
  exact Ret.mk rfl (unhide he)
def sameG (a b : Gl) : Bool := a.op == b.op && a.n.toList == b.n.toList && a.ts.length == b.ts.length && cmpL a.ts b.ts == 0
set_option maxHeartbeats 1000000 in
theorem qmy (n : Nat) (hM : n ≤ 1000000000) (a b : Gl) (v x : Value) (w : World) (hn : wtL a.ts ≤ n) (hv : VG w a v) (hx : VG w b x) : Calls Tryz.prog 165 #[v, x] w (Ret w (Is (.bool (sameG a b)))) := by
  obtain ⟨sa, rfl, hsa, -⟩ := hv.open_
  obtain ⟨sb, rfl, hsb, -⟩ := hx.open_
  have hC := hide (fun (w' : World) (e : Ext w w') (h : a.ts.length = b.ts.length) => qnd n hM a.ts b.ts sa sb w' hn (hsa.ext e) (hsb.ext e))
  obtain ⟨Aa, ca, xsa, rfl, -⟩ := hsa
  obtain ⟨Ab, cb, xsb, rfl, -⟩ := hsb
  clear hv hx hn
  obtain ⟨y, hy⟩ : ∃ y, ((w.alloc (.cells #[.int .i64 a.op, .string a.n, .slice Aa a.ts.length ca] 73)).alloc (.cells #[.int .i64 b.op, .string b.n, .slice Ab b.ts.length cb] 73)) = y := ⟨_, rfl⟩
  have HE : Hid (Ext w y) := Lib.hid (by rw [← hy]; exact (((Ext.rfl' w).al _).al _))
  have ba0 : y.cell? ⟨w.heap.size, 0, none⟩ = some (.int .i64 a.op) := by rw [← hy]; exact ((Ext.rfl' _).al _).cellOf (qkF w #[.int .i64 a.op, .string a.n, .slice Aa a.ts.length ca] 73 0 _ (w.heap.size) (by simp) rfl)
  have ba1 : y.cell? ⟨w.heap.size, 1, none⟩ = some (.string a.n) := by rw [← hy]; exact ((Ext.rfl' _).al _).cellOf (qkF w #[.int .i64 a.op, .string a.n, .slice Aa a.ts.length ca] 73 1 _ (w.heap.size) (by simp) rfl)
  have ba2 : y.cell? ⟨w.heap.size, 2, none⟩ = some (.slice Aa a.ts.length ca) := by rw [← hy]; exact ((Ext.rfl' _).al _).cellOf (qkF w #[.int .i64 a.op, .string a.n, .slice Aa a.ts.length ca] 73 2 _ (w.heap.size) (by simp) rfl)
  have bb0 : y.cell? ⟨w.heap.size + 1, 0, none⟩ = some (.int .i64 b.op) := by rw [← hy]; exact qkF (w.alloc (.cells #[.int .i64 a.op, .string a.n, .slice Aa a.ts.length ca] 73)) #[.int .i64 b.op, .string b.n, .slice Ab b.ts.length cb] 73 0 _ (w.heap.size + 1) (by simp) rfl
  have bb1 : y.cell? ⟨w.heap.size + 1, 1, none⟩ = some (.string b.n) := by rw [← hy]; exact qkF (w.alloc (.cells #[.int .i64 a.op, .string a.n, .slice Aa a.ts.length ca] 73)) #[.int .i64 b.op, .string b.n, .slice Ab b.ts.length cb] 73 1 _ (w.heap.size + 1) (by simp) rfl
  have bb2 : y.cell? ⟨w.heap.size + 1, 2, none⟩ = some (.slice Ab b.ts.length cb) := by rw [← hy]; exact qkF (w.alloc (.cells #[.int .i64 a.op, .string a.n, .slice Aa a.ts.length ca] 73)) #[.int .i64 b.op, .string b.n, .slice Ab b.ts.length cb] 73 2 _ (w.heap.size + 1) (by simp) rfl
  by_cases h1 : a.op = b.op
  · by_cases h2 : a.n.toList = b.n.toList
    · by_cases h3 : a.ts.length = b.ts.length
      · have HZ : Hid (sameG a b = (cmpL a.ts b.ts == 0)) := Lib.hid (by unfold sameG; simp [h1, h2, h3])
        have k1 : (a.op == b.op) = true := by simpa using h1
        have k2 : (a.n.toList == b.n.toList) = true := by simpa using h2
        have k3 : ((a.ts.length : Int) == (b.ts.length : Int)) = true := by simp [h3]
        have H3 := Lib.hid h3
        clear h1 h2 h3
        go_enter Tryz.func165, Tryz.ntmps165
        go_wp2_with fail
        refine ((unhide hC) _ HE.out H3.out).mono ?_
        rintro e w1 ⟨v, rfl, hv, he⟩
        obtain rfl : v = _ := hv
        have he := hide (HE.out.tr he)
        rw [qkN H3.out]
        generalize cmpL a.ts b.ts = q at *
        go_wp2
        go_ret
        rw [HZ.out]
        exact Ret.mk rfl (unhide he)
      · have HZ : Hid (sameG a b = false) := Lib.hid (by unfold sameG; simp [h3])
        have k1 : (a.op == b.op) = true := by simpa using h1
        have k2 : (a.n.toList == b.n.toList) = true := by simpa using h2
        have k3 : ((a.ts.length : Int) == (b.ts.length : Int)) = false := by simp; omega
        clear h1 h2 h3
        go_enter Tryz.func165, Tryz.ntmps165
        go_wp2
        go_ret
        rw [HZ.out]
        exact Ret.mk rfl HE.out
    · have HZ : Hid (sameG a b = false) := Lib.hid (by unfold sameG; simp [h2])
      have k1 : (a.op == b.op) = true := by simpa using h1
      have k2 : (a.n.toList == b.n.toList) = false := by simpa using h2
      clear h1 h2
      go_enter Tryz.func165, Tryz.ntmps165
      go_wp2
      go_ret
      rw [HZ.out]
      exact Ret.mk rfl HE.out
  · have HZ : Hid (sameG a b = false) := Lib.hid (by unfold sameG; simp [h1])
    have k1 : (a.op == b.op) = false := by simpa using h1
    clear h1
    go_enter Tryz.func165, Tryz.ntmps165
    go_wp2
    go_ret
    rw [HZ.out]
    exact Ret.mk rfl HE.out
/-! ### vars -/
section
variable {P : Program} {w W : World} {ops : Array Oper} {rest : List Oper} {o : Oper} {a : Act} {Q : Exit → Act → World → Prop}
end
def IsInts (W0 : World) (l : List Int) (v : Value) (w : World) : Prop := IsRow W0.heap.size 3 1 l.length (l.map (Value.int .i64)) v w
theorem IsInts.own {W0 : World} {l : List Int} {v : Value} {w : World} (h : IsInts W0 l v w) : ∃ A c, v = .slice A l.length c ∧ w.ownsRow W0.heap.size 3 1 (.slice A l.length c) l.length (l.map (Value.int .i64)) := h
theorem IsInts.rd {W0 : World} {l : List Int} {v : Value} {w : World} (h : IsInts W0 l v w) : RdI l v w := IsRow.rd h
theorem IsInts.nil (W0 w : World) : IsInts W0 [] (.slice none 0 0) w := ⟨none, 0, rfl, by simpa using World.ownsRow_nil w W0.heap.size _ 1⟩
theorem qtg {w w' : World} {base : Nat} {e : TypeId} {size n : Nat} {v : Value} {xs : List Value} (h : w.ownsRow base e size v n xs) (he : Ext w w') : w'.ownsRow base e size v n xs :=
  h.kept (row := none) ⟨he.os, he.tape, he.output, he.size, fun k hk _ => he.block k hk⟩ (by cases v.ownBlock <;> simp)
theorem IsInts.kept {W0 : World} {l : List Int} {v : Value} {w w' : World} (h : IsInts W0 l v w) (he : Ext w w') : IsInts W0 l v w' := by
  obtain ⟨A, c, rfl, ho⟩ := h
  exact ⟨A, c, rfl, qtg ho he⟩
def SeenS (W : World) (b : Nat) (xs : List Int) : Prop := ∃ D : DataW Unit, W.ownsMap Tryz.prog 3 unitElem b xs.length D ∧ Maps.IsMap D ∧ ∀ x : Int, I64 x → Maps.has D (.int .i64 x) = decide (x ∈ xs)
theorem SeenS.ext {W W' : World} {b : Nat} {xs : List Int} (h : SeenS W b xs) (he : Ext W W') : SeenS W' b xs := by
  obtain ⟨D, h1, h2, h3⟩ := h
  have hlt := h1.lt
  exact ⟨D, h1.kept (row := none) ⟨he.os, he.tape, he.output, he.size, fun k hk _ => he.block k hk⟩ (by simp), h2, h3⟩
theorem SeenS.lt {W : World} {b : Nat} {xs : List Int} (h : SeenS W b xs) : b < W.heap.size := let ⟨_, h1, _⟩ := h; h1.lt
theorem SeenS.put {W : World} {b : Nat} {xs : List Int} {D : DataW Unit} {x : Int} (hx : I64 x) (h2 : Maps.IsMap D) (h3 : ∀ x : Int, I64 x → Maps.has D (.int .i64 x) = decide (x ∈ xs)) (hown : W.ownsMap Tryz.prog 3 unitElem b (xs.length + 1) (D.put (.int .i64 x) (.agg []))) : SeenS W b (xs ++ [x]) := by
  refine ⟨_, by simpa using hown, h2.put _ _, fun y hy => ?_⟩
  by_cases hxy : y = x
  · subst hxy
    rw [Maps.has_put_same h2 (by simp [WideAt.IsKeyLit])]
    simp
  · rw [Maps.has_put_other (by simp [hxy]), h3 y hy]
    simp [hxy]
end Go.Proofs.YtdoljfkjdfaakaaGreat
namespace Go.Proofs.YtdoljfkjdfaakaaGreat
set_option maxRecDepth 100000
def bv (b : UInt8) : Value := .int .u8 b.toNat
theorem qsT (l : List UInt8) : ∀ u ∈ l.map bv, u.oneCell' = true := by
  intro u hu; obtain ⟨b, _, rfl⟩ := List.mem_map.1 hu; rfl
def IsB (base : Nat) (bs : List UInt8) (v : Value) (w' : World) : Prop := IsRow base 5 1 bs.length (bs.map bv) v w'
theorem IsB.mk {base n : Nat} {bs : List UInt8} {xs : List Value} {A : Option Addr} {c : Nat} {w' : World} (h : w'.ownsRow base 5 1 (.slice A n c) n xs) (hx : xs = bs.map bv) (hn : n = bs.length) : IsB base bs (.slice A n c) w' := IsRow.mk h hx hn
theorem IsB.rd {base : Nat} {bs : List UInt8} {v : Value} {w' : World} (h : IsB base bs v w') : ∃ A c, v = .slice A bs.length c ∧ Rd w' A (bs.map bv) := IsRow.rd h
theorem IsB.own {base : Nat} {bs : List UInt8} {v : Value} {w' : World} (h : IsB base bs v w') : ∃ A c, v = .slice A bs.length c ∧ w'.ownsRow base 5 1 (.slice A bs.length c) bs.length (bs.map bv) := h
def zig (k : Int) : Nat := if 0 ≤ k then (2 * k).toNat else (-2 * k - 1).toNat
def zag (u : Nat) : Int := if u % 2 = 0 then ((u / 2 : Nat) : Int) else -((u / 2 : Nat) : Int) - 1
theorem qs1 (u : Nat) : zig (zag u) = u := by
  unfold zag zig; split <;> split <;> omega
theorem qq2 {k : Int} (h1 : -9223372036854775808 ≤ k) (h2 : k < 9223372036854775808) : zig k < 18446744073709551616 := by
  unfold zig; split <;> omega
theorem qtD {u : Nat} (h : u < 18446744073709551616) : -9223372036854775808 ≤ zag u ∧ zag u < 9223372036854775808 := by
  unfold zag; split <;> omega
def encF : Nat → Nat → List UInt8
  | 0, u => [UInt8.ofNat u]
  | f + 1, u => if u < 128 then [UInt8.ofNat u] else UInt8.ofNat (u % 128 + 128) :: encF f (u / 128)
def enc (u : Nat) : List UInt8 := encF u u
theorem qqA : ∀ (f g u : Nat), u ≤ f → u ≤ g → encF f u = encF g u
  | 0, g, u, h, _ => by
    obtain rfl : u = 0 := by omega
    cases g <;> simp [encF]
  | f + 1, 0, u, _, h => by
    obtain rfl : u = 0 := by omega
    simp [encF]
  | f + 1, g + 1, u, h1, h2 => by
    unfold encF
    split
    · rfl
    · rw [qqA f g (u / 128) (by omega) (by omega)]
theorem qkp {u : Nat} (h : u < 128) : enc u = [UInt8.ofNat u] := by
  unfold enc; cases u <;> simp [encF]; omega
theorem qnj {u : Nat} (h : 128 ≤ u) : enc u = UInt8.ofNat (u % 128 + 128) :: enc (u / 128) := by
  obtain ⟨v, rfl⟩ : ∃ v, u = v + 1 := ⟨u - 1, by omega⟩
  show encF (v + 1) (v + 1) = _
  rw [encF, if_neg (by omega)]
  congr 1
  exact qqA _ _ _ (by omega) (Nat.le_refl _)
theorem qq4 : ∀ (k u : Nat), u < 128 ^ (k + 1) → (enc u).length ≤ k + 1
  | 0, u, h => by rw [qkp (by simpa using h)]; simp
  | k + 1, u, h => by
    rcases Nat.lt_or_ge u 128 with hu | hu
    · rw [qkp hu]; simp
    · rw [qnj hu, List.length_cons]
      have := qq4 k (u / 128) (by rw [Nat.pow_succ] at h; omega)
      omega
theorem qrv (u : Nat) : 1 ≤ (enc u).length := by
  rcases Nat.lt_or_ge u 128 with hu | hu
  · rw [qkp hu]; simp
  · rw [qnj hu]; simp
theorem qma {u : Nat} (h : u < 18446744073709551616) : (enc u).length ≤ 10 := qq4 9 u (by omega)
def rawM (k : Nat) : List UInt8 → Nat × Nat × Nat
  | [] => (0, 0, 4)
  | c :: r =>
    if k = 9 ∧ 1 < c.toNat then (0, 0, 3)
    else if c.toNat < 128 then (if 0 < k ∧ c.toNat = 0 then (0, 0, 3) else (c.toNat, 1, 0))
    else match rawM (k + 1) r with
      | (u, n, e) => if e = 0 then (c.toNat - 128 + 128 * u, n + 1, 0) else (0, 0, e)
theorem qiM (k : Nat) (c : UInt8) (r : List UInt8) : rawM k (c :: r) = if k = 9 ∧ 1 < c.toNat then (0, 0, 3)
    else if c.toNat < 128 then (if 0 < k ∧ c.toNat = 0 then (0, 0, 3) else (c.toNat, 1, 0))
    else if (rawM (k + 1) r).2.2 = 0 then (c.toNat - 128 + 128 * (rawM (k + 1) r).1, (rawM (k + 1) r).2.1 + 1, 0) else (0, 0, (rawM (k + 1) r).2.2) := rfl
theorem qsD (k : Nat) (l : List UInt8) : (rawM k l).2.2 = 0 ∨ ((rawM k l).1 = 0 ∧ (rawM k l).2.1 = 0 ∧ ((rawM k l).2.2 = 3 ∨ (rawM k l).2.2 = 4)) := by
  induction l generalizing k with
  | nil => right; simp [rawM]
  | cons c r ih =>
    unfold rawM
    split
    · simp
    · split
      · split <;> simp
      · have := ih (k + 1)
        generalize rawM (k + 1) r = x at *
        obtain ⟨u, n, e⟩ := x
        simp only at this ⊢
        split
        · simp
        · rcases this with h | h
          · contradiction
          · simp [h.2.2]
theorem qtX (k c u : Nat) (hk : k < 9) (hc : c < 128) (h : u * 128 ^ (k + 1) < 18446744073709551616) : (c + 128 * u) * 128 ^ k < 18446744073709551616 := by
  have hq : 18446744073709551616 = 2 ^ (64 - 7 * (k + 1)) * 128 ^ (k + 1) := by
    rw [show (128 : Nat) = 2 ^ 7 by rfl, ← Nat.pow_mul, ← Nat.pow_add, show 64 - 7 * (k + 1) + 7 * (k + 1) = 64 by omega]
  generalize 2 ^ (64 - 7 * (k + 1)) = q at hq
  rw [hq] at h ⊢
  have h1 : u < q := Nat.lt_of_mul_lt_mul_right h
  have h2 : (c + 128 * u) * 128 ^ k < 128 * (u + 1) * 128 ^ k := Nat.mul_lt_mul_of_pos_right (by omega) (Nat.pow_pos (by omega))
  have h3 : 128 * (u + 1) * 128 ^ k = (u + 1) * 128 ^ (k + 1) := by rw [Nat.pow_succ, Nat.mul_comm (128 ^ k) 128, ← Nat.mul_assoc, Nat.mul_comm (u + 1) 128]
  have h4 : (u + 1) * 128 ^ (k + 1) ≤ q * 128 ^ (k + 1) := Nat.mul_le_mul_right _ (by omega)
  omega
theorem qnk (k : Nat) (l : List UInt8) (hk : k ≤ 9) (h : (rawM k l).2.2 = 0) :
    (rawM k l).1 * 128 ^ k < 18446744073709551616 ∧ l.take (rawM k l).2.1 = enc (rawM k l).1 ∧ (rawM k l).2.1 = (enc (rawM k l).1).length ∧ (rawM k l).2.1 ≤ l.length ∧ (0 < k → 0 < (rawM k l).1) := by
  induction l generalizing k with
  | nil => simp [rawM] at h
  | cons c r ih =>
    unfold rawM at h ⊢
    split at h
    · simp at h
    · rename_i h9
      rw [if_neg h9]
      split at h
      · rename_i hc
        rw [if_pos hc]
        split at h
        · simp at h
        · rename_i h0
          rw [if_neg h0]
          simp only [qkp hc, UInt8.ofNat_toNat, List.take_succ_cons, List.take_zero, List.length_cons, List.length_nil, true_and]
          refine ⟨?_, by omega, by omega⟩
          rcases Nat.lt_or_ge k 9 with hk9 | hk9
          · have : 128 ^ k ≤ 128 ^ 8 := Nat.pow_le_pow_right (by omega) (by omega)
            have h2 : c.toNat * 128 ^ k ≤ 127 * 128 ^ 8 := Nat.mul_le_mul (by omega) this
            omega
          · obtain rfl : k = 9 := by omega
            omega
      · rename_i hc
        rw [if_neg hc]
        have hk9 : k < 9 := by omega
        have ih' := ih (k + 1) (by omega)
        generalize rawM (k + 1) r = x at *
        obtain ⟨u, n, e⟩ := x
        simp only at ih' h ⊢
        split at h
        · rename_i he
          rw [if_pos he]
          obtain ⟨h1, h2, h3, h4, h5⟩ := ih' he
          have hu := h5 (by omega)
          have hcl := UInt8.toNat_lt c
          have hd : (c.toNat - 128 + 128 * u) % 128 = c.toNat - 128 := by omega
          have hq : (c.toNat - 128 + 128 * u) / 128 = u := by omega
          simp only
          rw [qnj (by omega), hd, hq, show c.toNat - 128 + 128 = c.toNat by omega, UInt8.ofNat_toNat]
          refine ⟨?_, by simp [h2], by simp [h3], by simp [h4], by omega⟩
          exact qtX k _ u hk9 (by omega) h1
        · simp only at h; omega
def accM (acc k : Nat) (x : Nat × Nat × Nat) : Nat × Nat × Nat := if x.2.2 = 0 then (acc + 128 ^ k * x.1, k + x.2.1, 0) else (0, 0, x.2.2)
theorem qn4 (x : List UInt8) : accM 0 0 (rawM 0 x) = rawM 0 x := by
  unfold accM
  rcases qsD 0 x with h | ⟨h1, h2, _⟩
  · rw [if_pos h]
    generalize rawM 0 x = y at *
    obtain ⟨a, b, c⟩ := y
    simp only at h
    simp [h]
  · split
    · rename_i h
      generalize rawM 0 x = y at *
      obtain ⟨a, b, c⟩ := y
      simp only at h h1 h2
      simp [h, h1, h2]
    · generalize rawM 0 x = y at *
      obtain ⟨a, b, c⟩ := y
      simp only at h1 h2
      simp [h1, h2]
theorem qn6 {acc k : Nat} {c : UInt8} {r : List UInt8} (hk : k < 9) (hc : 128 ≤ c.toNat) : accM acc k (rawM k (c :: r)) = accM (acc + 128 ^ k * (c.toNat - 128)) (k + 1) (rawM (k + 1) r) := by
  rw [qiM, if_neg (by omega), if_neg (by omega)]
  generalize rawM (k + 1) r = y
  obtain ⟨a, b, e⟩ := y
  unfold accM
  by_cases he : e = 0
  · subst he
    simp only [if_true, Prod.mk.injEq]
    refine ⟨?_, by omega, trivial⟩
    rw [Nat.pow_succ, Nat.mul_add, Nat.mul_assoc, Nat.add_assoc]
  · simp [he]
end Go.Proofs.YtdoljfkjdfaakaaGreat
namespace Go.Proofs.YtdoljfkjdfaakaaGreat
set_option maxRecDepth 100000
open Go.RowKit
theorem qoA : (Tryz.prog.info? 5).map (fun i => (i.zero, i.size, i.bytes)) = some (some (.int .u8 0), 1, 1) := by kernel_rfl
theorem qq8 (n : Int) : ∀ u ∈ #[Value.int .u8 n].toList, u.oneCell' = true := by
  intro u hu; simp at hu; subst hu; rfl
section
variable {w : World} (W : World) {ops : Array Oper} {rest : List Oper} {o : Oper} {a : Act} {Q : Exit → Act → World → Prop}
theorem mkB (hg : Region.wanted o (yielded ops a.tmps) = true) (l c : Operand) (hop : o.op = Op.makeSlice 30 l c) (hE : Ext W w)
    (C : Int) (n : Nat) (hl : a.eval l = .int .i64 0) (hc : a.eval c = .int .i64 C) (hC : C = (n : Int)) (hn : n ≤ 281474976710656)
    (hK : ∀ A' w', w'.ownsRow W.heap.size 5 1 (.slice A' 0 n) 0 [] → Ext W w' → wpList Tryz.prog ops Q rest (a.put o.dst (.slice A' 0 n)) w') : wpList Tryz.prog ops Q (o :: rest) a w :=
  qoo W hg l c _ hop _ _ _ _ Tryz.underlying30 qoA hE .i64 .i64 C n hl hc hC (by omega) (by omega) hK
theorem appB (hgd : Region.wanted o (yielded ops a.tmps) = true) (s x : Operand) (ho : o.op = .call { callee := .builtin .append, args := #[s, x], argTypes := #[30, 30] })
    (hE : Ext W w) (v : Value) (n : Nat) (xs : List Value) (hs : a.eval s = v) (hown : w.ownsRow W.heap.size 5 1 v n xs)
    (A : Option Addr) (m c : Nat) (news : List Value) (hx : a.eval x = .slice A m c) (hr : Rd w A news) (hm : news.length = m) (h1 : ∀ u ∈ news, u.oneCell' = true) (hb : n + m ≤ 140737488355328)
    (h : ∀ A' c' w', w'.ownsRow W.heap.size 5 1 (.slice A' (n + m) c') (n + m) (xs ++ news) → Ext W w' → wpList Tryz.prog ops Q rest (a.put o.dst (.slice A' (n + m) c')) w') : wpList Tryz.prog ops Q (o :: rest) a w :=
  qoM W hgd s x _ ho _ _ 1 1 Tryz.underlying30 qoA rfl (by omega) hE v n xs hs hown A m c news hx hr (by omega) h1 (by omega) (by omega) h
theorem appS (hgd : Region.wanted o (yielded ops a.tmps) = true) (s x : Operand) (ho : o.op = .call { callee := .builtin .append, args := #[s, x], argTypes := #[30, 9] })
    (hE : Ext W w) (v : Value) (n : Nat) (xs : List Value) (hs : a.eval s = v) (hown : w.ownsRow W.heap.size 5 1 v n xs)
    (t : ByteArray) (hx : a.eval x = .string t) (hb : n + t.size ≤ 140737488355328)
    (h : ∀ A' c' w', w'.ownsRow W.heap.size 5 1 (.slice A' (n + t.size) c') (n + t.size) (xs ++ t.data.toList.map bv) → Ext W w' → wpList Tryz.prog ops Q rest (a.put o.dst (.slice A' (n + t.size) c')) w') : wpList Tryz.prog ops Q (o :: rest) a w := by
  obtain ⟨i, hi, hz, hsize, hby⟩ := info_parts qoA
  refine qjO hgd fun K hK => ?_
  obtain ⟨v', w', hrun, h2, h3, _⟩ := Lib.run_append_own_string (P := Tryz.prog) w W.heap.size _ _ o.type _ i Tryz.underlying30 Tryz.underlying9 hi hz hsize hby v n xs hown t (by unfold maxLen; omega) hb hE.size
  obtain ⟨A', c', rfl⟩ := qnZ h2
  unfold Oper.wp execOp
  simp only [ho, resolve, invoke, builtin, Sem.run_bind, Sem.run_pure, Result.andThen_ok, List.map_toArray, List.map_cons, List.map_nil, hs, hx, hrun]
  exact hK _ _ (h A' c' w' h2 (hE.gr hown (Nat.le_refl _) h3))
end
theorem qsz {bs : List UInt8} {k : Nat} (h : k < bs.length) : ∃ x, bs.drop k = x :: bs.drop (k + 1) ∧ (bs.map bv)[k]? = some (.int .u8 (x.toNat : Int)) :=
  ⟨bs[k], List.drop_eq_getElem_cons h, by simp [h, bv]⟩
theorem and127 : ∀ x : Fin 256, (x.val &&& 127) = x.val % 128 := by decide +kernel
theorem and128 : ∀ x : Fin 256, (x.val &&& 128) = if x.val < 128 then 0 else 128 := by decide +kernel
theorem qrw {x : Nat} (h : x < 256) : (bits .and .u8 (x : Int) 128 == 0) = decide (x < 128) := by
  rw [show (128 : Int) = ((128 : Nat) : Int) by rfl, u8_and_nat _ _ h (by omega), and128 ⟨x, h⟩]
  by_cases hx : x < 128 <;> simp [hx]
theorem qtS {acc k x : Nat} (ha : acc < 128 ^ k) (hk : k ≤ 9) (h9 : k = 9 → x ≤ 1) (h : x < 256) :
    bits .or .u64 (acc : Int) (IntKind.u64.wrap (IntKind.u64.wrap (bits .and .u8 (x : Int) 127) * 2 ^ (7 * k))) = ((acc + 128 ^ k * (x % 128) : Nat) : Int) := by
  rw [show (127 : Int) = ((127 : Nat) : Int) by rfl, u8_and_nat _ _ h (by omega), and127 ⟨x, h⟩]
  have e0 : (128 : Nat) ^ k = 2 ^ (7 * k) := by rw [show (128 : Nat) = 2 ^ 7 by rfl, ← Nat.pow_mul]
  have e1 : IntKind.u64.wrap ((x % 128 : Nat) : Int) = ((x % 128 : Nat) : Int) := by rw [IntKind.wrap_u64]; omega
  have hP : 128 ^ k ≤ 128 ^ 9 := Nat.pow_le_pow_right (by omega) hk
  have hm : 128 ^ k * (x % 128) + 128 ^ k ≤ 18446744073709551616 := by
    rcases Nat.lt_or_ge k 9 with hk9 | hk9
    · have h1 : 128 ^ k ≤ 128 ^ 8 := Nat.pow_le_pow_right (by omega) (by omega)
      have h2 : 128 ^ k * (x % 128) ≤ 128 ^ 8 * 127 := Nat.mul_le_mul h1 (by omega)
      omega
    · obtain rfl : k = 9 := by omega
      have := h9 rfl
      have h2 : 128 ^ 9 * (x % 128) ≤ 128 ^ 9 * 1 := Nat.mul_le_mul_left _ (by omega)
      omega
  have e2 : ((x % 128 : Nat) : Int) * 2 ^ (7 * k) = ((128 ^ k * (x % 128) : Nat) : Int) := by
    rw [e0, Int.natCast_mul, Int.natCast_pow, Int.mul_comm]; rfl
  have e3 : IntKind.u64.wrap ((128 ^ k * (x % 128) : Nat) : Int) = ((128 ^ k * (x % 128) : Nat) : Int) := by
    have hpos : 0 < 128 ^ k := Nat.pow_pos (by omega)
    rw [IntKind.wrap_u64]; omega
  have hpos : 0 < 128 ^ k := Nat.pow_pos (by omega)
  rw [e1, e2, e3, u64_or_nat _ _ (by omega) (by omega)]
  rw [e0] at ha ⊢
  rw [Nat.or_comm, ← Nat.two_pow_add_eq_or_of_lt ha, Nat.add_comm]
def rawV (at_ : Nat) (r : Nat × Nat × Nat) : Value := .tuple #[.int .u64 (r.1 : Nat), .int .i64 ((if r.2.2 = 0 then at_ + r.2.1 else 0 : Nat) : Int), .int .i64 (r.2.2 : Nat)]
def RawPost (w : World) (at_ : Nat) (r : Nat × Nat × Nat) (e : Ending) (w' : World) : Prop := e = .returned (rawV at_ r) ∧ w = w'
theorem RawPost.mk {w : World} {at_ : Nat} {r : Nat × Nat × Nat} {u n e : Int} (h1 : u = (r.1 : Nat)) (h2 : n = ((if r.2.2 = 0 then at_ + r.2.1 else 0 : Nat) : Int)) (h3 : e = (r.2.2 : Nat)) :
    RawPost w at_ r (.returned (.tuple #[.int .u64 u, .int .i64 n, .int .i64 e])) w := by
  subst h1 h2 h3
  exact ⟨rfl, rfl⟩
set_option maxRecDepth 100000 in
set_option maxHeartbeats 800000 in
theorem qs2 (A : Option Addr) (c : Nat) (bs : List UInt8) (at_ : Nat) (w : World) (hrd : Rd w A (bs.map bv)) (hlen : bs.length ≤ 1000000000) (ha : at_ ≤ bs.length) :
    Calls Tryz.prog 199 #[.slice A bs.length c, .int .i64 (at_ : Int)] w (RawPost w at_ (rawM 0 (bs.drop at_))) := by
  go_enter Tryz.func199, Tryz.ntmps199
  go_wp2
  go_loop [4, 7, 8, 9] (fun v4 _ _ v9 => ∃ (k acc : Nat), v9 = .int .i64 (k : Int) ∧ k ≤ 9 ∧ at_ + k ≤ bs.length ∧ v4 = .int .u64 (acc : Int) ∧ Hid (acc < 128 ^ k) ∧ Hid (accM acc k (rawM k (bs.drop (at_ + k))) = rawM 0 (bs.drop at_)))
    (fun _ _ _ v9 => 10 - (intOf v9).toNat)
  case atStart => exact ⟨0, 0, rfl, by omega, by omega, rfl, by exact Lib.hid (by omega), qn4 _⟩
  case round =>
    obtain ⟨k, acc, rfl, hk, hak, rfl, hacc, hinv⟩ := hrel
    by_cases hl : at_ + k = bs.length
    · have hb : ((at_ : Int) + (k : Int) == (bs.length : Int)) = true := by simp; omega
      have HI : Hid (rawM 0 (bs.drop at_) = (0, 0, 4)) := by
        rw [← hinv.out, List.drop_eq_nil_of_le (by omega)]; exact Lib.hid rfl
      go_wp2
      go_ret3
      rw [HI.out]
      exact RawPost.mk rfl rfl rfl
    · have hb : ((at_ : Int) + (k : Int) == (bs.length : Int)) = false := by simp; omega
      obtain ⟨x, hx, hx'⟩ := qsz (bs := bs) (k := at_ + k) (by omega)
      obtain ⟨ad, rfl, hc⟩ := hrd.at_ hx'
      rw [hx] at hinv
      clear hx hx'
      have hx256 := UInt8.toNat_lt x
      have h128 := qrw hx256
      by_cases hform : k = 9 ∧ 1 < x.toNat
      · have HI : Hid (rawM 0 (bs.drop at_) = (0, 0, 3)) := by
          rw [← hinv.out, qiM, if_pos hform]; exact Lib.hid rfl
        have h9b : ((k : Int) == 9) = true := by simp; omega
        have h1 := hform.2
        clear hform h128
        go_wp2
        go_ret3
        rw [HI.out]
        exact RawPost.mk rfl rfl rfl
      · have HS := Lib.hid (qtS (x := x.toNat) hacc.out hk (fun h => by omega) hx256)
        by_cases hsm : x.toNat < 128
        · have e1 : x.toNat % 128 = x.toNat := by omega
          rw [e1] at HS
          rw [show decide (x.toNat < 128) = true by simpa using hsm] at h128
          by_cases hz : 0 < k ∧ x.toNat = 0
          · have HI : Hid (rawM 0 (bs.drop at_) = (0, 0, 3)) := by
              rw [← hinv.out, qiM, if_neg hform, if_pos hsm, if_pos hz]; exact Lib.hid rfl
            have hxb : ((x.toNat : Int) == 0) = true := by simp; omega
            have h0 := hz.1
            by_cases h9 : k = 9
            · have h9b : ((k : Int) == 9) = true := by simp; omega
              have h1 : x.toNat ≤ 1 := by omega
              clear hz h9 hform
              go_wp2
              go_ret3
              rw [HI.out]
              exact RawPost.mk rfl rfl rfl
            · have h9b : ((k : Int) == 9) = false := by simp; omega
              clear hz
              go_wp2
              go_ret3
              rw [HI.out]
              exact RawPost.mk rfl rfl rfl
          · have HI : Hid (rawM 0 (bs.drop at_) = (acc + 128 ^ k * x.toNat, k + 1, 0)) := by
              rw [← hinv.out, qiM, if_neg hform, if_pos hsm, if_neg hz]; exact Lib.hid rfl
            have hxb : 0 < k → ((x.toNat : Int) == 0) = false := by intro h; simp; omega
            by_cases h9 : k = 9
            · have h9b : ((k : Int) == 9) = true := by simp; omega
              have hxb := hxb (by omega)
              have h0 : 0 < k := by omega
              have h1 : x.toNat ≤ 1 := by omega
              clear hz h9 hform
              go_wp2
              go_ret3
              rw [HI.out, HS.out]
              exact RawPost.mk rfl (by simp; omega) rfl
            · have h9b : ((k : Int) == 9) = false := by simp; omega
              clear hz
              go_wp2
              all_goals
                go_ret3
                rw [HI.out, HS.out]
                exact RawPost.mk rfl (by simp; omega) rfl
        · rw [show decide (x.toNat < 128) = false by simpa using hsm] at h128
          have hk9 : k < 9 := by omega
          rw [qn6 hk9 (by omega)] at hinv
          have h9b : ((k : Int) == 9) = false := by simp; omega
          go_wp2
          go_round
          case rel =>
            refine ⟨k + 1, acc + 128 ^ k * (x.toNat - 128), by go_num, by omega, by omega, by rw [HS.out, show x.toNat % 128 = x.toNat - 128 by omega], ?_, hinv⟩
            have h2 := hacc.out
            have h3 : 128 ^ k * (x.toNat - 128) + 128 ^ k ≤ 128 ^ k * 128 := by
              rw [← Nat.mul_succ]; exact Nat.mul_le_mul_left _ (by omega)
            exact Lib.hid (by rw [Nat.pow_succ]; omega)
          case measure => simp [intOf]; omega
theorem qn1 {P : Program} (w : World) (src dst e : TypeId) (hs : P.underlying src = some (.slice e)) (he : P.underlying e = some (.int .u8)) (hd : P.underlying dst = some .string)
    (A : Option Addr) (n c : Nat) (bs : List UInt8) (hr : Rd w A (bs.map bv)) (hn : bs.length = n) : (convert src dst (.slice A n c)).run P w = .ok (.string ⟨bs.toArray⟩) w := by
  subst hn
  rcases hr with h | ⟨ad, rfl, hc⟩
  · have h0 : bs = [] := by simpa using h
    subst h0
    rw [run_convert_bytes_string w src dst e _ _ c hs he hd]
    cases A <;> simp [Conv.bytesToString, loadCells]
    all_goals rfl
  · exact run_convert_bytes_back w src dst e ad c bs hs he hd fun j hj => hc j _ (by simp [hj, bv])
def Same (w : World) (v : Value) (e : Ending) (w' : World) : Prop := e = .returned v ∧ w = w'
theorem Same.mk {w : World} {v v' : Value} (h : v = v') : Same w v' (.returned v) w := ⟨by rw [h], rfl⟩
def intM (bs : List UInt8) (at_ lo hi : Int) : Int × Int × Int :=
  if at_ < 0 ∨ (bs.length : Int) < at_ ∨ hi < lo then (0, 0, 2)
  else if (rawM 0 (bs.drop at_.toNat)).2.2 ≠ 0 then (0, 0, ((rawM 0 (bs.drop at_.toNat)).2.2 : Nat))
  else if zag (rawM 0 (bs.drop at_.toNat)).1 < lo ∨ hi < zag (rawM 0 (bs.drop at_.toNat)).1 then (0, 0, 5)
  else (zag (rawM 0 (bs.drop at_.toNat)).1, at_ + ((rawM 0 (bs.drop at_.toNat)).2.1 : Nat), 0)
def tri (r : Int × Int × Int) : Value := .tuple #[.int .i64 r.1, .int .i64 r.2.1, .int .i64 r.2.2]
theorem qmo {r : Int × Int × Int} {a b c : Int} (h : r = (a, b, c)) : Value.tuple #[.int .i64 a, .int .i64 b, .int .i64 c] = tri r := by subst h; rfl
theorem qn7 (a : Int) (h1 : 0 ≤ a) (h2 : a < 9223372036854775808) : bits .xor .i64 a (-1) = -a - 1 := by
  obtain ⟨n, rfl⟩ := Int.eq_ofNat_of_zero_le h1
  show IntKind.i64.wrap ((BitVec.ofInt 64 (n : Int) ^^^ BitVec.ofInt 64 (-1)).toNat : Int) = _
  have hm : BitVec.ofInt 64 (-1) = BitVec.allOnes 64 := by decide +kernel
  rw [hm, BitVec.xor_allOnes, BitVec.toNat_not, BitVec.ofInt_natCast, BitVec.toNat_ofNat, Nat.mod_eq_of_lt (by omega), IntKind.wrap_i64]
  omega
theorem qnP (a : Int) (h1 : 0 ≤ a) (h2 : a < 9223372036854775808) : bits .xor .i64 a 0 = a := by
  obtain ⟨n, rfl⟩ := Int.eq_ofNat_of_zero_le h1
  show IntKind.i64.wrap ((BitVec.ofInt 64 (n : Int) ^^^ BitVec.ofInt 64 0).toNat : Int) = _
  have hm : BitVec.ofInt 64 0 = 0#64 := by decide +kernel
  rw [hm, BitVec.xor_zero, BitVec.ofInt_natCast, BitVec.toNat_ofNat, Nat.mod_eq_of_lt (by omega), IntKind.wrap_i64]
  omega
theorem qtE {u : Nat} (h : u < 18446744073709551616) : bits .xor .i64 (wrap64 ((u : Int) / 2)) (wrap64 (-wrap64 (bits .and .u64 (u : Int) 1))) = zag u := by
  rw [show (1 : Int) = ((1 : Nat) : Int) by rfl, u64_and_nat _ _ h (by omega), Nat.and_one_is_mod]
  have hw : ∀ a : Int, -9223372036854775808 ≤ a → a < 9223372036854775808 → wrap64 a = a := fun a h1 h2 => by unfold wrap64; omega
  rw [hw _ (by omega) (by omega), hw ((u % 2 : Nat) : Int) (by omega) (by omega), hw _ (by omega) (by omega)]
  unfold zag
  by_cases h2 : u % 2 = 0
  · rw [h2, if_pos rfl]
    show bits .xor .i64 _ 0 = _
    rw [qnP _ (by omega) (by omega)]
    omega
  · rw [if_neg h2, show u % 2 = 1 by omega]
    show bits .xor .i64 _ (-1) = _
    rw [qn7 _ (by omega) (by omega)]
    omega
theorem qoN (l : List UInt8) (h : (rawM 0 l).2.2 = 0) : (rawM 0 l).1 < 18446744073709551616 := by
  have := (qnk 0 l (by omega) h).1
  simpa using this
set_option maxRecDepth 100000 in
set_option maxHeartbeats 800000 in
theorem qrm (A : Option Addr) (c : Nat) (bs : List UInt8) (at_ lo hi : Int) (w : World) (hrd : Rd w A (bs.map bv)) (hlen : bs.length ≤ 1000000000) :
    Calls Tryz.prog 142 #[.slice A bs.length c, .int .i64 at_, .int .i64 lo, .int .i64 hi] w (Same w (tri (intM bs at_ lo hi))) := by
  by_cases h0 : at_ < 0
  · have HM : Hid (intM bs at_ lo hi = (0, 0, 2)) := by unfold intM; rw [if_pos (.inl h0)]; exact Lib.hid rfl
    go_enter Tryz.func142, Tryz.ntmps142
    go_wp2
    go_ret3
    exact Same.mk (qmo HM.out)
  by_cases h1 : (bs.length : Int) < at_
  · have HM : Hid (intM bs at_ lo hi = (0, 0, 2)) := by unfold intM; rw [if_pos (.inr (.inl h1))]; exact Lib.hid rfl
    go_enter Tryz.func142, Tryz.ntmps142
    go_wp2
    go_ret3
    exact Same.mk (qmo HM.out)
  by_cases h2 : hi < lo
  · have HM : Hid (intM bs at_ lo hi = (0, 0, 2)) := by unfold intM; rw [if_pos (.inr (.inr h2))]; exact Lib.hid rfl
    go_enter Tryz.func142, Tryz.ntmps142
    go_wp2
    go_ret3
    exact Same.mk (qmo HM.out)
  obtain ⟨n, rfl⟩ := Int.eq_ofNat_of_zero_le (show 0 ≤ at_ by omega)
  have HM : Hid (intM bs n lo hi = if (rawM 0 (bs.drop n)).2.2 ≠ 0 then ((0 : Int), (0 : Int), (((rawM 0 (bs.drop n)).2.2 : Nat) : Int))
      else if zag (rawM 0 (bs.drop n)).1 < lo ∨ hi < zag (rawM 0 (bs.drop n)).1 then (0, 0, 5)
      else (zag (rawM 0 (bs.drop n)).1, (n : Int) + (((rawM 0 (bs.drop n)).2.1 : Nat) : Int), 0)) := by
    unfold intM; rw [if_neg (by omega)]; exact Lib.hid rfl
  have hR := qs2 A c bs n w hrd hlen (by omega)
  have hlt := qoN (bs.drop n)
  rcases hr : rawM 0 (bs.drop n) with ⟨u, m, e⟩
  rw [hr] at HM hR hlt
  clear hr
  simp only at HM hlt
  have HR := hide hR
  clear hR
  by_cases he : e = 0
  · subst he
    have HZ := qtE (hlt rfl)
    have HL := Lib.hid (hlt rfl)
    clear hlt
    by_cases h3 : zag u < lo
    · have HM' : Hid (intM bs n lo hi = (0, 0, 5)) := by rw [HM.out, if_neg (by simp), if_pos (.inl h3)]; exact Lib.hid rfl
      go_enter Tryz.func142, Tryz.ntmps142
      go_wp2_with fail
      refine (unhide HR).mono ?_
      rintro e w1 ⟨rfl, rfl⟩
      simp only [rawV]
      go_wp2
      go_ret3
      exact Same.mk (qmo HM'.out)
    · by_cases h4 : hi < zag u
      · have HM' : Hid (intM bs n lo hi = (0, 0, 5)) := by rw [HM.out, if_neg (by simp), if_pos (.inr h4)]; exact Lib.hid rfl
        go_enter Tryz.func142, Tryz.ntmps142
        go_wp2_with fail
        refine (unhide HR).mono ?_
        rintro e w1 ⟨rfl, rfl⟩
        simp only [rawV]
        go_wp2
        go_ret3
        exact Same.mk (qmo HM'.out)
      · have HM' : Hid (intM bs n lo hi = (zag u, (n : Int) + ((m : Nat) : Int), 0)) := by rw [HM.out, if_neg (by simp), if_neg (by omega)]; exact Lib.hid rfl
        go_enter Tryz.func142, Tryz.ntmps142
        go_wp2_with fail
        refine (unhide HR).mono ?_
        rintro e w1 ⟨rfl, rfl⟩
        simp only [rawV]
        go_wp2
        go_ret3
        exact Same.mk (qmo (by rw [HM'.out]))
  · have HM' : Hid (intM bs n lo hi = (0, 0, ((e : Nat) : Int))) := by rw [HM.out, if_pos he]; exact Lib.hid rfl
    have hb : ((e : Int) != 0) = true := by simp; omega
    clear hlt
    go_enter Tryz.func142, Tryz.ntmps142
    go_wp2_with fail
    refine (unhide HR).mono ?_
    rintro e w1 ⟨rfl, rfl⟩
    simp only [rawV]
    go_wp2
    go_ret3
    exact Same.mk (qmo (by rw [HM'.out]))
theorem qkR {bs : List UInt8} {at_ lo hi n next : Int} (h : intM bs at_ lo hi = (n, next, 0)) :
    0 ≤ at_ ∧ at_ < next ∧ next ≤ bs.length ∧ lo ≤ n ∧ n ≤ hi ∧ -9223372036854775808 ≤ n ∧ n < 9223372036854775808 ∧ (bs.drop at_.toNat).take (next.toNat - at_.toNat) = enc (zig n) ∧ (next.toNat - at_.toNat) = (enc (zig n)).length := by
  unfold intM at h
  split at h
  · simp at h
  · rename_i h0
    split at h
    · rename_i h1; simp at h; omega
    · rename_i h1
      have h1 : (rawM 0 (bs.drop at_.toNat)).2.2 = 0 := by simpa using h1
      split at h
      · simp at h
      · rename_i h2
        simp only [Prod.mk.injEq] at h
        obtain ⟨h3, h4, _⟩ := h
        have hr := qnk 0 _ (by omega) h1
        have hlt := qoN _ h1
        have hz := qtD hlt
        have hp := qrv (rawM 0 (bs.drop at_.toNat)).1
        have hl := hr.2.2.2.1
        rw [List.length_drop] at hl
        have hm := hr.2.2.1
        rw [← h3, qs1]
        have e1 : next.toNat - at_.toNat = (rawM 0 (bs.drop at_.toNat)).2.1 := by omega
        rw [e1]
        refine ⟨by omega, by omega, by omega, by omega, by omega, by omega, by omega, hr.2.1, hr.2.2.1⟩
theorem qlS {bs : List UInt8} {at_ lo hi n next e : Int} (h : intM bs at_ lo hi = (n, next, e)) (he : e ≠ 0) : n = 0 ∧ next = 0 := by
  unfold intM at h
  split at h
  · simp at h; omega
  · split at h
    · simp at h; omega
    · split at h
      · simp at h; omega
      · simp only [Prod.mk.injEq] at h; omega
def textM (bs : List UInt8) (at_ most : Int) : List UInt8 × Int × Int :=
  if most < 0 then ([], 0, 2)
  else if (intM bs at_ 0 most).2.2 ≠ 0 then ([], 0, (intM bs at_ 0 most).2.2)
  else if (bs.length : Int) - (intM bs at_ 0 most).2.1 < (intM bs at_ 0 most).1 then ([], 0, 4)
  else ((bs.drop (intM bs at_ 0 most).2.1.toNat).take (intM bs at_ 0 most).1.toNat, (intM bs at_ 0 most).2.1 + (intM bs at_ 0 most).1, 0)
def triS (r : List UInt8 × Int × Int) : Value := .tuple #[.string ⟨r.1.toArray⟩, .int .i64 r.2.1, .int .i64 r.2.2]
theorem qnw {r : List UInt8 × Int × Int} {s : ByteArray} {a : List UInt8} {b c : Int} (h : r = (a, b, c)) (hs : s = ⟨a.toArray⟩) : Value.tuple #[.string s, .int .i64 b, .int .i64 c] = triS r := by subst h hs; rfl
set_option maxRecDepth 100000 in
set_option maxHeartbeats 800000 in
theorem qsi (A : Option Addr) (c : Nat) (bs : List UInt8) (at_ most : Int) (w : World) (hrd : Rd w A (bs.map bv)) (hlen : bs.length ≤ 1000000000) (hcap : bs.length ≤ c) :
    Calls Tryz.prog 140 #[.slice A bs.length c, .int .i64 at_, .int .i64 most] w (Same w (triS (textM bs at_ most))) := by
  by_cases h0 : most < 0
  · have HM : Hid (textM bs at_ most = ([], 0, 2)) := by unfold textM; rw [if_pos h0]; exact Lib.hid rfl
    go_enter Tryz.func140, Tryz.ntmps140
    go_wp2
    go_ret3
    exact Same.mk (qnw HM.out rfl)
  have HR := hide (qrm A c bs at_ 0 most w hrd hlen)
  have HM : Hid (textM bs at_ most = if (intM bs at_ 0 most).2.2 ≠ 0 then ([], 0, (intM bs at_ 0 most).2.2)
      else if (bs.length : Int) - (intM bs at_ 0 most).2.1 < (intM bs at_ 0 most).1 then ([], 0, 4)
      else ((bs.drop (intM bs at_ 0 most).2.1.toNat).take (intM bs at_ 0 most).1.toNat, (intM bs at_ 0 most).2.1 + (intM bs at_ 0 most).1, 0)) := by
    unfold textM; rw [if_neg h0]; exact Lib.hid rfl
  rcases hr : intM bs at_ 0 most with ⟨n, next, e⟩
  rw [hr] at HM HR
  have HO := Lib.hid hr
  clear hr
  simp only at HM
  by_cases he : e = 0
  · subst he
    obtain ⟨p1, p2, p3, p4, p5, -⟩ := qkR HO.out
    obtain ⟨q, rfl⟩ := Int.eq_ofNat_of_zero_le (show 0 ≤ next by omega)
    obtain ⟨m, rfl⟩ := Int.eq_ofNat_of_zero_le p4
    by_cases h1 : (bs.length : Int) - (q : Int) < (m : Int)
    · have HM' : Hid (textM bs at_ most = ([], 0, 4)) := by rw [HM.out, if_neg (by simp), if_pos h1]; exact Lib.hid rfl
      go_enter Tryz.func140, Tryz.ntmps140
      go_wp2_with fail
      refine (unhide HR).mono ?_
      rintro e w1 ⟨rfl, rfl⟩
      simp only [tri]
      go_wp2
      go_ret3
      exact Same.mk (qnw HM'.out rfl)
    · have HM' : Hid (textM bs at_ most = ((bs.drop q).take m, (q : Int) + (m : Int), 0)) := by rw [HM.out, if_neg (by simp), if_neg h1]; exact Lib.hid rfl
      go_enter Tryz.func140, Tryz.ntmps140
      go_wp2_with fail
      refine (unhide HR).mono ?_
      rintro e w1 ⟨rfl, rfl⟩
      simp only [tri]
      go_wp2_with (with_reducible refine qr8 36 rfl ?_)
      refine qnf (qqj _ rfl _ _ _ _ rfl _ 1 Tryz.underlying30 (by kernel_rfl) A bs.length c q (q + m) rfl (.inl ⟨rfl, rfl⟩) (.inl ⟨rfl, by omega⟩) (by omega) (by omega) ?_)
      have hx := ((hrd.sub (c := c) (s := 1) q (by simpa using hcap)).take m)
      rw [Nat.mul_one, ← List.map_drop, ← List.map_take] at hx
      have hcv := qn1 (P := Tryz.prog) w _ _ _ Tryz.underlying30 Tryz.underlying5 Tryz.underlying9 _ m (c - q) _ hx (by rw [List.length_take, List.length_drop]; omega)
      go_wp2
      go_ret3
      exact Same.mk (qnw HM'.out rfl)
  · have HM' : Hid (textM bs at_ most = ([], 0, e)) := by rw [HM.out, if_pos he]; exact Lib.hid rfl
    have hb : (e != 0) = true := by simpa using he
    clear he
    go_enter Tryz.func140, Tryz.ntmps140
    go_wp2_with fail
    refine (unhide HR).mono ?_
    rintro e w1 ⟨rfl, rfl⟩
    simp only [tri]
    go_wp2
    go_ret3
    exact Same.mk (qnw HM'.out rfl)
theorem qok (x : Nat) (h : x < 18446744073709551616) : x ^^^ 18446744073709551615 = 18446744073709551615 - x := by
  have h1 : (BitVec.ofNat 64 x ^^^ BitVec.allOnes 64).toNat = 18446744073709551615 - x := by
    rw [BitVec.xor_allOnes, BitVec.toNat_not, BitVec.toNat_ofNat, Nat.mod_eq_of_lt (by omega)]
  rw [BitVec.toNat_xor, BitVec.toNat_ofNat, BitVec.toNat_allOnes, Nat.mod_eq_of_lt (by omega)] at h1
  exact h1
theorem qtP (k : Int) (h1 : -9223372036854775808 ≤ k) (h2 : k < 9223372036854775808) :
    bits .xor .u64 (IntKind.u64.wrap (IntKind.u64.wrap k * 2)) (IntKind.u64.wrap (k / 9223372036854775808)) = ((zig k : Nat) : Int) := by
  rw [IntKind.wrap_u64, IntKind.wrap_u64, IntKind.wrap_u64]
  unfold zig
  by_cases h : 0 ≤ k
  · rw [if_pos h]
    obtain ⟨n, rfl⟩ := Int.eq_ofNat_of_zero_le h
    rw [show ((n : Int) / 9223372036854775808 % 18446744073709551616) = ((0 : Nat) : Int) by omega, show (n : Int) % 18446744073709551616 * 2 % 18446744073709551616 = ((2 * n : Nat) : Int) by omega]
    rw [bits_xor_u64_nat _ _ (by omega) (by omega), Nat.xor_zero]
    omega
  · rw [if_neg h]
    rw [show (k / 9223372036854775808 % 18446744073709551616) = ((18446744073709551615 : Nat) : Int) by omega, show k % 18446744073709551616 * 2 % 18446744073709551616 = ((18446744073709551616 - (-2 * k).toNat : Nat) : Int) by omega]
    rw [bits_xor_u64_nat _ _ (by omega) (by omega), qok _ (by omega)]
    omega
theorem or128 : ∀ x : Fin 256, (x.val ||| 128) = x.val % 128 + 128 := by decide +kernel
theorem qt8 (u : Nat) : bits .or .u8 ((u : Int) % 256) 128 = (((UInt8.ofNat (u % 128 + 128)).toNat : Nat) : Int) := by
  rw [show ((u : Int) % 256) = ((u % 256 : Nat) : Int) by omega, show (128 : Int) = ((128 : Nat) : Int) by rfl, u8_or_nat _ _ (by omega) (by omega), or128 ⟨u % 256, by omega⟩]
  simp only [UInt8.toNat_ofNat']
  omega
theorem qsZ {u : Nat} (h : u < 128) : (u : Int) = (((UInt8.ofNat u).toNat : Nat) : Int) := by
  simp only [UInt8.toNat_ofNat']
  omega
def PutRel (W : World) (all : List UInt8) (v5 v6 : Value) (wr : World) : Prop :=
  ∃ (ys : List UInt8) (u : Nat) (A' : Option Addr) (c' : Nat), v5 = .slice A' ys.length c' ∧ v6 = .int .u64 (u : Int) ∧ Hid (u < 18446744073709551616) ∧ Hid (ys ++ enc u = all) ∧ Hid (ys.length ≤ all.length) ∧
    wr.ownsRow W.heap.size 5 1 (.slice A' ys.length c') ys.length (ys.map bv) ∧ Ext W wr
theorem PutRel.mk {W wr : World} {all ys : List UInt8} {u : Nat} {A' : Option Addr} {c' : Nat} (hu : u < 18446744073709551616) (h : ys ++ enc u = all)
    (ho : wr.ownsRow W.heap.size 5 1 (.slice A' ys.length c') ys.length (ys.map bv)) (he : Ext W wr) : PutRel W all (.slice A' ys.length c') (.int .u64 (u : Int)) wr :=
  ⟨ys, u, A', c', rfl, rfl, hu, h, by have := congrArg List.length h; simp only [List.length_append] at this; exact Lib.hid (by omega), ho, he⟩
theorem PutRel.next {W wr : World} {all ys : List UInt8} {u : Nat} {A' : Option Addr} {c' : Nat} (hb : 128 ≤ u) (hu : u < 18446744073709551616) (h : ys ++ enc u = all)
    (ho : wr.ownsRow W.heap.size 5 1 (.slice A' (ys.length + 1) c') (ys.length + 1) (ys.map bv ++ [.int .u8 ((UInt8.ofNat (u % 128 + 128)).toNat : Int)])) (he : Ext W wr) : PutRel W all (.slice A' (ys.length + 1) c') (.int .u64 ((u : Int) / 128)) wr := by
  have := PutRel.mk (W := W) (wr := wr) (all := all) (ys := ys ++ [UInt8.ofNat (u % 128 + 128)]) (u := u / 128) (A' := A') (c' := c') (by omega) (by rw [← h, qnj hb]; simp) (by simpa [bv] using ho) he
  simpa using this
theorem PutRel.done {W wr : World} {all ys : List UInt8} {u : Nat} {A' : Option Addr} {c' : Nat} (hb : u < 128) (h : ys ++ enc u = all)
    (ho : wr.ownsRow W.heap.size 5 1 (.slice A' (ys.length + 1) c') (ys.length + 1) (ys.map bv ++ [.int .u8 (u : Int)])) : IsB W.heap.size all (.slice A' (ys.length + 1) c') wr := by
  rw [qkp hb] at h
  subst h
  rw [qsZ hb] at ho
  exact IsB.mk ho (by simp [bv]) (by simp)
set_option maxRecDepth 100000 in
set_option maxHeartbeats 400000 in
theorem qm3 (A : Option Addr) (c : Nat) (bs : List UInt8) (k : Int) (w : World) (hrd : Rd w A (bs.map bv)) (hlen : bs.length ≤ 1000000000) (hk1 : -9223372036854775808 ≤ k) (hk2 : k < 9223372036854775808) :
    Calls Tryz.prog 131 #[.slice A bs.length c, .int .i64 k] w (Ret w (IsB w.heap.size (bs ++ enc (zig k)))) := by
  have hz := qq2 hk1 hk2
  have hl10 := qma hz
  go_enter Tryz.func131, Tryz.ntmps131
  go_wp2_with (first | (at_make; refine qgO ?_) | (at_builtin; refine qgO ?_))
  refine qnf (mkB w rfl _ _ rfl (Ext.rfl' w) _ (bs.length + 10) rfl rfl (by omega) (by omega) ?_)
  intro A1 w1 hown1 he1
  go_wp2_with (first | (at_make; refine qgO ?_) | (at_builtin; refine qgO ?_))
  refine qnf (appB w rfl _ _ rfl he1 _ _ _ rfl hown1 A bs.length c (bs.map bv) rfl (hrd.ext he1) (by simp) (qsT _) (by omega) ?_)
  intro A2 c2 w2 hown2 he2
  clear hown1 he1
  go_wp2
  rw [qtP k hk1 hk2]
  have HZ := Lib.hid hz
  clear hz hk1 hk2
  simp only [Nat.zero_add, List.nil_append] at hown2
  go_loopw [5, 6] (PutRel w (bs ++ enc (zig k))) (fun _ v6 _ => (intOf v6).toNat)
  case atStart => exact PutRel.mk HZ.out rfl hown2 he2
  case round =>
    clear hown2 he2
    obtain ⟨ys, u, A', c', rfl, rfl, hu, hys, hl, hown, he⟩ := hrel
    have hl' : ys.length ≤ bs.length + 10 := by have := hl.out; simp only [List.length_append] at this; omega
    by_cases hb : 128 ≤ u
    · go_wp2_with (first | (at_make; refine qgO ?_) | (at_builtin; refine qgO ?_))
      refine qnf (appB w rfl _ _ rfl (he.al _) _ _ _ rfl (hown.alloc _) _ 1 1 _ rfl (Rd.new _ _ _) rfl (qq8 _) (by omega) ?_)
      intro A3 c3 w3 hown3 he3
      rw [qt8] at hown3
      clear hown he
      go_wp2
      go_roundw
      case rel => exact PutRel.next hb hu.out hys.out hown3 he3
      case measure => simp [intOf]; omega
    · go_wp2_with (first | (at_make; refine qgO ?_) | (at_builtin; refine qgO ?_))
      refine qnf (appB w rfl _ _ rfl (he.al _) _ _ _ rfl (hown.alloc _) _ 1 1 _ rfl (Rd.new _ _ _) rfl (qq8 _) (by omega) ?_)
      intro A3 c3 w3 hown3 he3
      clear hown he
      go_wp2
      go_ret
      exact Ret.mk (PutRel.done (by omega) hys.out hown3) he3
theorem qo9 (A : Option Addr) (c : Nat) (bs : List UInt8) (s : ByteArray) (w : World) (hrd : Rd w A (bs.map bv)) (hlen : bs.length ≤ 1000000000) (hs : s.size ≤ 1000000000) :
    Calls Tryz.prog 132 #[.slice A bs.length c, .string s] w (Ret w (IsB w.heap.size (bs ++ (enc (zig s.size) ++ s.data.toList)))) := by
  have hl10 : (enc (zig s.size)).length ≤ 10 := qma (qq2 (by omega) (by omega))
  go_enter Tryz.func132, Tryz.ntmps132
  go_wp2_with fail
  refine (qm3 A c bs _ _ hrd hlen (by omega) (by omega)).mono ?_
  rintro e w1 ⟨v, rfl, hB, he⟩
  obtain ⟨A1, c1, rfl, hown⟩ := hB.own
  have hL : (bs ++ enc (zig s.size)).length ≤ bs.length + 10 := by simp only [List.length_append]; omega
  generalize hys : bs ++ enc (zig s.size) = ys at *
  have HY := Lib.hid hys
  clear hys
  go_wp2_with (first | (at_make; refine qgO ?_) | (at_builtin; refine qgO ?_))
  refine qnf (appS w rfl _ _ rfl he _ _ _ rfl hown s rfl (by omega) ?_)
  intro A3 c3 w3 hown3 he3
  clear hown he
  go_wp2
  go_ret
  exact Ret.mk (IsB.mk hown3 (by rw [← List.append_assoc, HY.out]; simp) (by rw [← List.append_assoc, HY.out, List.length_append, Array.length_toList]; rfl)) he3
theorem qoU (A : Option Addr) (c : Nat) (bs : List UInt8) (x : Bool) (w : World) (hrd : Rd w A (bs.map bv)) (hlen : bs.length ≤ 1000000000) :
    Calls Tryz.prog 70 #[.slice A bs.length c, .bool x] w (Ret w (IsB w.heap.size (bs ++ [if x then 1 else 0]))) := by
  cases x
  all_goals
    go_enter Tryz.func70, Tryz.ntmps70
    go_wp2_with (first | (at_make; refine qgO ?_) | (at_builtin; refine qgO ?_))
    refine qnf (mkB w rfl _ _ rfl (Ext.rfl' w) _ (bs.length + 1) rfl rfl (by omega) (by omega) ?_)
    intro A1 w1 hown1 he1
    go_wp2_with (first | (at_make; refine qgO ?_) | (at_builtin; refine qgO ?_))
    refine qnf (appB w rfl _ _ rfl he1 _ _ _ rfl hown1 A bs.length c (bs.map bv) rfl (hrd.ext he1) (by simp) (qsT _) (by omega) ?_)
    intro A2 c2 w2 hown he
    simp only [Nat.zero_add, List.nil_append] at hown
    clear hown1 he1
    go_wp2_with (first | (at_make; refine qgO ?_) | (at_builtin; refine qgO ?_))
    refine qnf (appB w rfl _ _ rfl (he.al _) _ _ _ rfl (hown.alloc _) _ 1 1 _ rfl (Rd.new _ _ _) rfl (qq8 _) (by omega) ?_)
    intro A3 c3 w3 hown3 he3
    clear hown he
    go_wp2
    go_ret
    exact Ret.mk (IsB.mk hown3 (by simp [bv]) (by simp)) he3
end Go.Proofs.YtdoljfkjdfaakaaGreat
namespace Go.Proofs.YtdoljfkjdfaakaaGreat
set_option maxRecDepth 100000
open Go.ChangeShapes Go.WideShapes Go.ChangeAt Go.RowKit
theorem own : ownKnob Tryz.prog.godebug = none := by kernel_rfl
theorem qt5 : laidOutB Tryz.prog = true := by kernel_rfl
theorem qld {H : Type} {enc : TypeId × Value → H} {P : Program} (hl : laidOutB P = true) {W W' : World} (hb : Ext W W') : ∀ {ts : List TypeId} {vs : List Value} {ds : List (DataW H)} {ps : List MemPlace},
    (∀ t ∈ ts, P.readableRec t = true ∧ t < P.types.size) → (∀ x ∈ ps, x.block < W.heap.size) → DataW.TrodAll enc P W 0 (fun _ => true) true ts vs ds ps → DataW.TrodAll enc P W' 0 (fun b => decide (b < W.heap.size)) true ts vs ds ps
  | [], [], [], _, _, _, h => h
  | t :: ts, v :: vs, d :: ds, ps, ht, hlt, h => by
    obtain ⟨p, q, h1, h2, rfl⟩ := h
    refine ⟨p, q, ?_, ?_, rfl⟩
    · exact Below.trod hl (ht t (List.mem_cons_self)).1 (ht t (List.mem_cons_self)).2 h1 hb fun x hx => hlt x (List.mem_append_left _ hx)
    · exact qld hl hb (fun t' h' => ht t' (List.mem_cons_of_mem _ h')) (fun x hx => hlt x (List.mem_append_right _ hx)) h2
  | [], [], _ :: _, _, _, _, h => h.elim
  | [], _ :: _, _, _, _, _, h => h.elim
  | _ :: _, [], _, _, _, _, h => h.elim
  | _ :: _, _ :: _, [], _, _, _, h => h.elim
theorem qmD {H : Type} {enc : TypeId × Value → H} {P : Program} {W : World} {base : Nat} {sp : Nat → Bool} {hd : Bool} : ∀ {ts : List TypeId} {vs : List Value} {ds : List (DataW H)} {ps : List MemPlace}, DataW.TrodAll enc P W base sp hd ts vs ds ps → ds.length = ts.length
  | [], [], [], _, _ => rfl
  | _ :: _, _ :: _, _ :: _, _, h => by
    obtain ⟨_, _, _, h2, _⟩ := h
    simp [qmD h2]
  | [], [], _ :: _, _, h => h.elim
  | [], _ :: _, _, _, h => h.elim
  | _ :: _, [], _, _, h => h.elim
  | _ :: _, _ :: _, [], _, h => h.elim
def Holds (k : FuncId) (F : Func) : Prop := ∀ (H : Type) (enc : TypeId × Value → H) (W : World) (base : Nat) (args : Array Value) (ds : List (DataW H)) (p : List MemPlace),
  (∀ (j : Nat) t v, F.params[j]? = some t → args[j]? = some v → Value.okWide Tryz.prog W .any base t v) → DataW.TrodAll enc Tryz.prog W 0 (fun _ => true) true F.params.toList args.toList ds p →
  Calls Tryz.prog k args W (Ret W (Is (.bool true)))
theorem qn0 {k : FuncId} {F : Func} (h : Holds k F) {s : ChangeSpec} (hv : s.vars = [])
    (hts0 : (F.params.toList.all fun t => (Tryz.prog).readableRec t && decide (t < (Tryz.prog).types.size)) = true) (hres : F.resultTypes.toList = [4]) (hrs : F.resultTypes.size = 1)
    (hsp : ∀ (H : Type) (ds : List (DataW H)), ds.length = F.params.toList.length → s.fn H ds = { results := [.lit (.bool true)], args := ds })
    {H : Type} {enc : TypeId × Value → H} (W : World) (base : Nat) (args : Array Value) (ds gs : List (DataW H)) (before : List MemPlace)
    (hval : ∀ (j : Nat) t v, F.params[j]? = some t → args[j]? = some v → Value.okWide Tryz.prog W .any base t v)
    (hW : DataW.Whole enc Tryz.prog F.params.toList s.vars false W args.toList ds gs before) :
    Calls Tryz.prog k args W fun e W' => ∃ v, e = .returned v ∧ s.post enc Tryz.prog F false true false false W args v W' := by
  have hts : ∀ t ∈ F.params.toList, (Tryz.prog).readableRec t = true ∧ t < (Tryz.prog).types.size := fun t ht => by
    have := List.all_eq_true.1 hts0 t ht
    simpa using this
  have hW' := hW
  obtain ⟨p, q, hA, hV, rfl, hfz, hnd⟩ := hW
  rw [hv] at hV
  obtain ⟨rfl, rfl⟩ := trodVars_none hV
  refine (h H enc W base args ds p hval hA).mono ?_
  rintro e W' ⟨v, rfl, hvv, hb⟩
  have hvv : v = .bool true := hvv
  subst hvv
  have hlen := qmD hA
  have hspec := hsp H ds hlen
  refine ⟨_, rfl, ds, [], p ++ [], [], p, [], hW', ?_, ?_, ?_, ?_, fun h => by cases h⟩
  · rw [List.append_nil, hspec, hres, hrs]
    exact trodAll_cons_mk (shut_bool Tryz.underlying4 _) trodAll_mk0
  · rw [List.append_nil, hspec]
    exact qld qt5 hb hts (fun x hx => hW'.lt x (by simpa using hx)) hA
  · rw [List.append_nil, hspec, hv]; rfl
  · exact World.keptBut_mono (fun x hx => ⟨by simpa using hx, .inr (.inl (by simpa using hx))⟩) (Below.frame hb (fun x => x ∈ p))
end Go.Proofs.YtdoljfkjdfaakaaGreat
namespace Go.Proofs.YtdoljfkjdfaakaaGreat
set_option maxRecDepth 100000
open Go.RowKit
inductive D where
  | bool (b : Bool)
  | int (k : IntKind) (n : Int)
  | str (s : ByteArray)
  | lst (l : List D)
  | full (l : List D)
  | own (u : Value) (l : List D)
  | agg (fs : List D)
  | ptr (d : D)
  | ref (b off : Nat) (path : List Nat)
  | mref (b i s off : Nat) (path : List Nat)
  | arr (b s lo n : Nat)
  | vec (u : Value) (n : Nat)
  | clo (fn : Fn) (first cap : List D)
  | nilf
  | nilm
  | nilp
  | map (r : Nat)
  | ifc (t : TypeId) (d : D)
  | nili
  | tup (ds : List D)
  | undef
def RdP (p : Addr → Prop) (w : World) (A : Option Addr) (xs : List Value) : Prop := xs = [] ∨ ∃ b o, A = some ⟨b, o, none⟩ ∧ ∀ j u, xs[j]? = some u → p ⟨b, o + j, none⟩ ∧ w.cell? ⟨b, o + j, none⟩ = some u
mutual
def Rep (p : Addr → Prop) (w : World) : D → Value → Prop
  | .bool b, v => v = .bool b
  | .int k n, v => v = .int k n ∧ k.wrap n = n
  | .str s, v => v = .string s ∧ s.size ≤ 9223372036854775807
  | .lst l, v => ∃ A c xs, v = .slice A l.length c ∧ l.length ≤ c ∧ c ≤ 9223372036854775807 ∧ RdP p w A xs ∧ Reps p w l xs ∧ ∀ u ∈ xs, u.oneCell' = true
  | .full l, v => ∃ A xs, v = .slice A l.length l.length ∧ l.length ≤ 9223372036854775807 ∧ RdP p w A xs ∧ Reps p w l xs ∧ ∀ u ∈ xs, u.oneCell' = true
  | .own u l, v => v = u ∧ ∃ A c xs, u = .slice A l.length c ∧ l.length ≤ c ∧ c ≤ 9223372036854775807 ∧ RdP p w A xs ∧ Reps p w l xs ∧ ∀ u ∈ xs, u.oneCell' = true
  | .agg fs, v => ∃ cs, v = .agg cs.toArray ∧ Reps p w fs cs ∧ ∀ u ∈ cs, u.oneCell' = true
  | .ptr d, v => ∃ b o u, v = .pointer (some ⟨b, o, none⟩) ∧ RdP p w (some ⟨b, o, none⟩) u.cells.toList ∧ Rep p w d u ∧ ∀ x ∈ u.cells.toList, x.oneCell' = true
  | .ref b off _, v => v = .pointer (some ⟨b, off, none⟩)
  | .mref b i s off _, v => v = .pointer (some ⟨b, i * s + off, none⟩)
  | .arr b s lo n, v => ∃ A c, v = .slice A n c ∧ n ≤ c ∧ c ≤ 9223372036854775807 ∧ (n = 0 ∨ A = some ⟨b, lo * s, none⟩)
  | .vec u n, v => v = u ∧ ∃ A c, u = .slice A n c ∧ n ≤ c ∧ c ≤ 9223372036854775807
  | .clo fn f c, v => ∃ fs cs, v = .func fn fs.toArray cs.toArray ∧ Repl p w f fs ∧ Repl p w c cs
  | .nilf, v => v = .nilFunc
  | .nilm, v => v = .map none
  | .nilp, v => v = .pointer none
  | .map r, v => v = .map (some r)
  | .ifc t d, v => ∃ u, v = .iface t u ∧ Rep p w d u
  | .nili, v => v = .nilIface
  | .tup ds, v => ∃ vs, v = .tuple vs.toArray ∧ Repl p w ds vs
  | .undef, v => v = Go.undef
def Reps (p : Addr → Prop) (w : World) : List D → List Value → Prop
  | [], cs => cs = []
  | d :: ds, cs => ∃ v rest, cs = v.cells.toList ++ rest ∧ Rep p w d v ∧ Reps p w ds rest
def Repl (p : Addr → Prop) (w : World) : List D → List Value → Prop
  | [], vs => vs = []
  | d :: ds, vs => ∃ v rest, vs = v :: rest ∧ Rep p w d v ∧ Repl p w ds rest
end
def Grow (p : Addr → Prop) (w : World) (p' : Addr → Prop) (w' : World) : Prop := ∀ a, p a → p' a ∧ w'.cell? a = w.cell? a
theorem Grow.refl (p : Addr → Prop) (w : World) : Grow p w p w := fun _ h => ⟨h, rfl⟩
theorem Grow.tr {p p' p'' : Addr → Prop} {w w' w'' : World} (h : Grow p w p' w') (k : Grow p' w' p'' w'') : Grow p w p'' w'' := fun a ha => ⟨(k a (h a ha).1).1, (k a (h a ha).1).2.trans (h a ha).2⟩
theorem RdP.grow {p p' : Addr → Prop} {w w' : World} {A : Option Addr} {xs : List Value} (h : RdP p w A xs) (g : Grow p w p' w') : RdP p' w' A xs := by
  rcases h with h | ⟨b, o, h1, h2⟩
  · exact .inl h
  · exact .inr ⟨b, o, h1, fun j u hu => ⟨(g _ (h2 j u hu).1).1, ((g _ (h2 j u hu).1).2).trans (h2 j u hu).2⟩⟩
mutual
theorem Rep.grow {p p' : Addr → Prop} {w w' : World} (g : Grow p w p' w') : ∀ {d : D} {v : Value}, Rep p w d v → Rep p' w' d v
  | .bool _, _, h => by simpa only [Rep] using h
  | .int _ _, _, h => by simpa only [Rep] using h
  | .str _, _, h => by simpa only [Rep] using h
  | .lst l, _, h => by
    simp only [Rep] at h ⊢
    obtain ⟨A, c, xs, h1, h2, h3, h4, h5, h6⟩ := h
    exact ⟨A, c, xs, h1, h2, h3, h4.grow g, Reps.grow g h5, h6⟩
  | .full l, _, h => by
    simp only [Rep] at h ⊢
    obtain ⟨A, xs, h1, h3, h4, h5, h6⟩ := h
    exact ⟨A, xs, h1, h3, h4.grow g, Reps.grow g h5, h6⟩
  | .own u l, _, h => by
    simp only [Rep] at h ⊢
    obtain ⟨h0, A, c, xs, h1, h2, h3, h4, h5, h6⟩ := h
    exact ⟨h0, A, c, xs, h1, h2, h3, h4.grow g, Reps.grow g h5, h6⟩
  | .agg fs, _, h => by
    simp only [Rep] at h ⊢
    obtain ⟨cs, h1, h2, h3⟩ := h
    exact ⟨cs, h1, Reps.grow g h2, h3⟩
  | .ptr d, _, h => by
    simp only [Rep] at h ⊢
    obtain ⟨b, o, u, h1, h2, h3, h4⟩ := h
    exact ⟨b, o, u, h1, h2.grow g, Rep.grow g h3, h4⟩
  | .ref _ _ _, _, h => by simpa only [Rep] using h
  | .mref _ _ _ _ _, _, h => by simpa only [Rep] using h
  | .arr _ _ _ _, _, h => by simpa only [Rep] using h
  | .vec _ _, _, h => by simpa only [Rep] using h
  | .clo _ _ _, _, h => by
    simp only [Rep] at h ⊢
    obtain ⟨fs, cs, h1, h2, h3⟩ := h
    exact ⟨fs, cs, h1, Repl.grow g h2, Repl.grow g h3⟩
  | .nilf, _, h => by simpa only [Rep] using h
  | .nilm, _, h => by simpa only [Rep] using h
  | .nilp, _, h => by simpa only [Rep] using h
  | .map _, _, h => by simpa only [Rep] using h
  | .ifc _ _, _, h => by
    simp only [Rep] at h ⊢
    obtain ⟨u, h1, h2⟩ := h
    exact ⟨u, h1, Rep.grow g h2⟩
  | .nili, _, h => by simpa only [Rep] using h
  | .tup ds, _, h => by
    simp only [Rep] at h ⊢
    obtain ⟨vs, h1, h2⟩ := h
    exact ⟨vs, h1, Repl.grow g h2⟩
  | .undef, _, h => by simpa only [Rep] using h
theorem Reps.grow {p p' : Addr → Prop} {w w' : World} (g : Grow p w p' w') : ∀ {ds : List D} {cs : List Value}, Reps p w ds cs → Reps p' w' ds cs
  | [], _, h => by simpa only [Reps] using h
  | _ :: _, _, h => by
    simp only [Reps] at h ⊢
    obtain ⟨v, rest, h1, h2, h3⟩ := h
    exact ⟨v, rest, h1, Rep.grow g h2, Reps.grow g h3⟩
theorem Repl.grow {p p' : Addr → Prop} {w w' : World} (g : Grow p w p' w') : ∀ {ds : List D} {vs : List Value}, Repl p w ds vs → Repl p' w' ds vs
  | [], _, h => by simpa only [Repl] using h
  | _ :: _, _, h => by
    simp only [Repl] at h ⊢
    obtain ⟨v, rest, h1, h2, h3⟩ := h
    exact ⟨v, rest, h1, Rep.grow g h2, Repl.grow g h3⟩
end
mutual
def sz : D → Nat
  | .agg fs => szs fs
  | _ => 1
def szs : List D → Nat
  | [] => 0
  | d :: ds => sz d + szs ds
end
mutual
theorem Rep.sz {p : Addr → Prop} {w : World} : ∀ {d : D} {v : Value}, Rep p w d v → v.cells.size = sz d
  | .agg fs, _, h => by
    simp only [Rep] at h
    obtain ⟨cs, rfl, h2, _⟩ := h
    simp only [Value.cells, YtdoljfkjdfaakaaGreat.sz, List.size_toArray]
    exact Reps.len h2
  | .bool _, _, h => by simp only [Rep] at h; subst h; rfl
  | .int _ _, _, h => by simp only [Rep] at h; rw [h.1]; rfl
  | .str _, _, h => by simp only [Rep] at h; rw [h.1]; rfl
  | .lst _, _, h => by simp only [Rep] at h; obtain ⟨A, c, xs, rfl, _⟩ := h; rfl
  | .full _, _, h => by simp only [Rep] at h; obtain ⟨A, xs, rfl, _⟩ := h; rfl
  | .own _ _, _, h => by simp only [Rep] at h; obtain ⟨rfl, A, c, xs, rfl, _⟩ := h; rfl
  | .ptr _, _, h => by simp only [Rep] at h; obtain ⟨b, o, u, rfl, _⟩ := h; rfl
  | .ref _ _ _, _, h => by simp only [Rep] at h; subst h; rfl
  | .mref _ _ _ _ _, _, h => by simp only [Rep] at h; subst h; rfl
  | .arr _ _ _ _, _, h => by simp only [Rep] at h; obtain ⟨A, c, rfl, _⟩ := h; rfl
  | .vec _ _, _, h => by simp only [Rep] at h; obtain ⟨rfl, A, c, rfl, _⟩ := h; rfl
  | .clo _ _ _, _, h => by simp only [Rep] at h; obtain ⟨fs, cs, rfl, _⟩ := h; rfl
  | .nilf, _, h => by simp only [Rep] at h; subst h; rfl
  | .nilm, _, h => by simp only [Rep] at h; subst h; rfl
  | .nilp, _, h => by simp only [Rep] at h; subst h; rfl
  | .map _, _, h => by simp only [Rep] at h; subst h; rfl
  | .ifc _ _, _, h => by simp only [Rep] at h; obtain ⟨u, rfl, _⟩ := h; rfl
  | .nili, _, h => by simp only [Rep] at h; subst h; rfl
  | .tup _, _, h => by simp only [Rep] at h; obtain ⟨vs, rfl, _⟩ := h; rfl
  | .undef, _, h => by simp only [Rep] at h; subst h; rfl
theorem Reps.len {p : Addr → Prop} {w : World} : ∀ {ds : List D} {cs : List Value}, Reps p w ds cs → cs.length = szs ds
  | [], _, h => by simp only [Reps] at h; subst h; rfl
  | d :: ds, _, h => by
    simp only [Reps] at h
    obtain ⟨v, rest, rfl, h2, h3⟩ := h
    rw [List.length_append, Reps.len h3, szs, Array.length_toList, Rep.sz h2]
end
def Wk (d d' : D) : Prop := ∀ p w v, Rep p w d v → Rep p w d' v
theorem Wk.refl (d : D) : Wk d d := fun _ _ _ h => h
theorem Wk.own (u : Value) (l : List D) : Wk (.own u l) (.lst l) := fun p w v h => by
  simp only [Rep] at h ⊢
  obtain ⟨rfl, h⟩ := h
  exact h
theorem Wk.full (l : List D) : Wk (.full l) (.lst l) := fun p w v h => by
  simp only [Rep] at h ⊢
  obtain ⟨A, xs, h1, h3, h4⟩ := h
  exact ⟨A, _, xs, h1, Nat.le_refl _, h3, h4⟩
def D.plain : D → Bool
  | .tup _ | .undef => false
  | _ => true
theorem Rep.one {p : Addr → Prop} {w : World} {d : D} {v : Value} (h : Rep p w d v) (hp : d.plain = true) : ∀ u ∈ v.cells.toList, u.oneCell' = true := by
  cases d <;> simp only [Rep] at h
  case agg fs =>
    obtain ⟨cs, rfl, _, h3⟩ := h
    simpa [Value.cells] using h3
  case tup => cases hp
  case undef => cases hp
  case bool => subst h; simp [Value.cells, Value.oneCell']
  case int => rw [h.1]; simp [Value.cells, Value.oneCell']
  case str => rw [h.1]; simp [Value.cells, Value.oneCell']
  case lst => obtain ⟨A, c, xs, rfl, _⟩ := h; simp [Value.cells, Value.oneCell']
  case full => obtain ⟨A, xs, rfl, _⟩ := h; simp [Value.cells, Value.oneCell']
  case own => obtain ⟨rfl, A, c, xs, rfl, _⟩ := h; simp [Value.cells, Value.oneCell']
  case ptr => obtain ⟨b, o, u, rfl, _⟩ := h; simp [Value.cells, Value.oneCell']
  case ref => subst h; simp [Value.cells, Value.oneCell']
  case mref => subst h; simp [Value.cells, Value.oneCell']
  case arr => obtain ⟨A, c, rfl, _⟩ := h; simp [Value.cells, Value.oneCell']
  case vec => obtain ⟨rfl, A, c, rfl, _⟩ := h; simp [Value.cells, Value.oneCell']
  case clo => obtain ⟨fs, cs, rfl, _⟩ := h; simp [Value.cells, Value.oneCell']
  case nilf => subst h; simp [Value.cells, Value.oneCell']
  case nilm => subst h; simp [Value.cells, Value.oneCell']
  case nilp => subst h; simp [Value.cells, Value.oneCell']
  case map => subst h; simp [Value.cells, Value.oneCell']
  case ifc => obtain ⟨u, rfl, _⟩ := h; simp [Value.cells, Value.oneCell']
  case nili => subst h; simp [Value.cells, Value.oneCell']
def D.isAgg : D → Bool
  | .agg _ => true
  | _ => false
def reval (d : D) (cs : List Value) : Value := match d with
  | .agg _ => .agg cs.toArray
  | _ => cs.headD Go.undef
theorem Rep.back {p : Addr → Prop} {w : World} {d : D} {v : Value} (h : Rep p w d v) : v = reval d v.cells.toList := by
  cases d <;> simp only [Rep] at h
  case agg fs =>
    obtain ⟨cs, rfl, _, h3⟩ := h
    simp [Value.cells, reval]
  case tup => obtain ⟨vs, rfl, _⟩ := h; simp [Value.cells, reval]
  case undef => subst h; simp [Value.cells, reval, Go.undef]
  case bool => subst h; simp [Value.cells, reval]
  case int => rw [h.1]; simp [Value.cells, reval]
  case str => rw [h.1]; simp [Value.cells, reval]
  case lst => obtain ⟨A, c, xs, rfl, _⟩ := h; simp [Value.cells, reval]
  case full => obtain ⟨A, xs, rfl, _⟩ := h; simp [Value.cells, reval]
  case own => obtain ⟨rfl, A, c, xs, rfl, _⟩ := h; simp [Value.cells, reval]
  case ptr => obtain ⟨b, o, u, rfl, _⟩ := h; simp [Value.cells, reval]
  case ref => subst h; simp [Value.cells, reval]
  case mref => subst h; simp [Value.cells, reval]
  case arr => obtain ⟨A, c, rfl, _⟩ := h; simp [Value.cells, reval]
  case vec => obtain ⟨rfl, A, c, rfl, _⟩ := h; simp [Value.cells, reval]
  case clo => obtain ⟨fs, cs, rfl, _⟩ := h; simp [Value.cells, reval]
  case nilf => subst h; simp [Value.cells, reval]
  case nilm => subst h; simp [Value.cells, reval]
  case nilp => subst h; simp [Value.cells, reval]
  case map => subst h; simp [Value.cells, reval]
  case ifc => obtain ⟨u, rfl, _⟩ := h; simp [Value.cells, reval]
  case nili => subst h; simp [Value.cells, reval]
theorem Reps.app {p : Addr → Prop} {w : World} : ∀ {l m : List D} {xs ys : List Value}, Reps p w l xs → Reps p w m ys → Reps p w (l ++ m) (xs ++ ys)
  | [], _, _, _, h, k => by simp only [Reps] at h; subst h; simpa using k
  | d :: l, m, _, ys, h, k => by
    simp only [Reps] at h
    obtain ⟨v, rest, rfl, h2, h3⟩ := h
    rw [List.cons_append, List.append_assoc]
    simp only [Reps]
    exact ⟨v, rest ++ ys, rfl, h2, Reps.app h3 k⟩
theorem Reps.nil (p : Addr → Prop) (w : World) : Reps p w [] [] := by simp only [Reps]
theorem Reps.cons {p : Addr → Prop} {w : World} {d : D} {l : List D} {v : Value} {ys : List Value} (h : Rep p w d v) (k : Reps p w l ys) : Reps p w (d :: l) (v.cells.toList ++ ys) := by
  simp only [Reps]; exact ⟨v, ys, rfl, h, k⟩
theorem Reps.single {p : Addr → Prop} {w : World} {d : D} {v : Value} (h : Rep p w d v) : Reps p w [d] v.cells.toList := by simpa using Reps.cons h (Reps.nil p w)
theorem Repl.cons {p : Addr → Prop} {w : World} {d : D} {l : List D} {v : Value} {ys : List Value} (h : Rep p w d v) (k : Repl p w l ys) : Repl p w (d :: l) (v :: ys) := by
  simp only [Repl]; exact ⟨v, ys, rfl, h, k⟩
theorem Repl.nil (p : Addr → Prop) (w : World) : Repl p w [] [] := by simp only [Repl]
theorem Repl.app {p : Addr → Prop} {w : World} : ∀ {l m : List D} {xs ys : List Value}, Repl p w l xs → Repl p w m ys → Repl p w (l ++ m) (xs ++ ys)
  | [], _, _, _, h, k => by simp only [Repl] at h; subst h; simpa using k
  | d :: l, m, _, ys, h, k => by
    simp only [Repl] at h
    obtain ⟨v, rest, rfl, h2, h3⟩ := h
    exact Repl.cons h2 (Repl.app h3 k)
theorem Repl.at_ {p : Addr → Prop} {w : World} : ∀ {l : List D} {vs : List Value} {i : Nat} {d : D}, Repl p w l vs → l[i]? = some d → ∃ v, vs[i]? = some v ∧ Rep p w d v
  | [], _, _, _, _, hi => by simp at hi
  | d :: l, _, 0, e, h, hi => by
    simp only [Repl] at h
    obtain ⟨v, rest, rfl, h2, h3⟩ := h
    simp at hi; subst hi
    exact ⟨v, rfl, h2⟩
  | d :: l, _, i + 1, e, h, hi => by
    simp only [Repl] at h
    obtain ⟨v, rest, rfl, h2, h3⟩ := h
    simp at hi
    obtain ⟨u, h4, h5⟩ := Repl.at_ h3 hi
    exact ⟨u, by simpa using h4, h5⟩
theorem Reps.at_ {p : Addr → Prop} {w : World} : ∀ {l : List D} {xs : List Value} {i : Nat} {d : D}, Reps p w l xs → l[i]? = some d → ∃ v, Rep p w d v ∧ xs = xs.take (szs (l.take i)) ++ v.cells.toList ++ xs.drop (szs (l.take i) + sz d) ∧ (xs.take (szs (l.take i))).length = szs (l.take i)
  | [], _, _, _, _, hi => by simp at hi
  | d :: l, _, 0, e, h, hi => by
    simp only [Reps] at h
    obtain ⟨v, rest, rfl, h2, h3⟩ := h
    simp at hi; subst hi
    refine ⟨v, h2, ?_, by simp [szs]⟩
    have hs := Rep.sz h2
    simp only [List.take_zero, szs, Nat.zero_add, List.nil_append]
    rw [← hs, ← Array.length_toList, List.drop_left]
  | d :: l, _, i + 1, e, h, hi => by
    simp only [Reps] at h
    obtain ⟨v, rest, rfl, h2, h3⟩ := h
    simp at hi
    obtain ⟨u, h4, h5, h6⟩ := Reps.at_ h3 hi
    have hs := Rep.sz h2
    have hs' : v.cells.toList.length = sz d := by simpa using hs
    refine ⟨u, h4, ?_, ?_⟩
    · simp only [List.take_succ_cons, szs]
      have e1 : (v.cells.toList ++ rest).take (sz d + szs (l.take i)) = v.cells.toList ++ rest.take (szs (l.take i)) := by rw [← hs', List.take_length_add_append]
      have e2 : (v.cells.toList ++ rest).drop (sz d + szs (l.take i) + sz e) = rest.drop (szs (l.take i) + sz e) := by rw [← hs', Nat.add_assoc, List.drop_length_add_append]
      rw [e1, e2, List.append_assoc, List.append_assoc]
      rw [List.append_assoc] at h5
      rw [← h5]
    · simp only [List.take_succ_cons, szs]
      rw [← hs', List.take_length_add_append, List.length_append, h6]
theorem Reps.at_cell {p : Addr → Prop} {w : World} {l : List D} {xs : List Value} {i : Nat} {d : D} (h : Reps p w l xs) (hi : l[i]? = some d) : ∃ v, Rep p w d v ∧ ∀ j u, v.cells.toList[j]? = some u → xs[szs (l.take i) + j]? = some u := by
  obtain ⟨v, h1, h2, h3⟩ := h.at_ hi
  refine ⟨v, h1, fun j u hu => ?_⟩
  rw [h2, List.append_assoc, List.getElem?_append_right (by omega), h3, Nat.add_sub_cancel_left, List.getElem?_append_left (List.getElem?_eq_some_iff.1 hu).1]
  exact hu
def AllSz (s : Nat) (l : List D) : Prop := ∀ d ∈ l, sz d = s
theorem AllSz.szs {s : Nat} : ∀ {l : List D}, AllSz s l → szs l = l.length * s
  | [], _ => by simp [YtdoljfkjdfaakaaGreat.szs]
  | d :: l, h => by
    have h1 := h d (List.mem_cons_self ..)
    have h2 := AllSz.szs (l := l) fun e he => h e (List.mem_cons_of_mem _ he)
    simp only [YtdoljfkjdfaakaaGreat.szs, List.length_cons, h1, h2, Nat.add_mul, Nat.one_mul]
    omega
theorem AllSz.take {s : Nat} {l : List D} (h : AllSz s l) (i : Nat) : AllSz s (l.take i) := fun d hd => h d (List.mem_of_mem_take hd)
theorem AllSz.drop {s : Nat} {l : List D} (h : AllSz s l) (i : Nat) : AllSz s (l.drop i) := fun d hd => h d (List.mem_of_mem_drop hd)
theorem AllSz.app {s : Nat} {l m : List D} (h : AllSz s l) (k : AllSz s m) : AllSz s (l ++ m) := fun d hd => (List.mem_append.1 hd).elim (h d) (k d)
theorem AllSz.nil (s : Nat) : AllSz s [] := fun _ h => by cases h
theorem AllSz.cons {s : Nat} {d : D} {l : List D} (h : sz d = s) (k : AllSz s l) : AllSz s (d :: l) := fun e he => (List.mem_cons.1 he).elim (fun h' => h' ▸ h) (k e)
theorem Reps.take {p : Addr → Prop} {w : World} : ∀ {l : List D} {xs : List Value} (i : Nat), Reps p w l xs → Reps p w (l.take i) (xs.take (szs (l.take i)))
  | l, xs, 0, _ => by simpa [szs] using Reps.nil p w
  | [], _, i + 1, h => by simp only [Reps] at h; subst h; simpa using Reps.nil p w
  | d :: l, _, i + 1, h => by
    simp only [Reps] at h
    obtain ⟨v, rest, rfl, h2, h3⟩ := h
    have hs' : v.cells.toList.length = sz d := by simpa using Rep.sz h2
    simp only [List.take_succ_cons, szs]
    rw [← hs', List.take_length_add_append]
    exact Reps.cons h2 (Reps.take i h3)
theorem Reps.drop {p : Addr → Prop} {w : World} : ∀ {l : List D} {xs : List Value} (i : Nat), Reps p w l xs → Reps p w (l.drop i) (xs.drop (szs (l.take i)))
  | l, xs, 0, h => by simpa [szs] using h
  | [], _, i + 1, h => by simp only [Reps] at h; subst h; simpa using Reps.nil p w
  | d :: l, _, i + 1, h => by
    simp only [Reps] at h
    obtain ⟨v, rest, rfl, h2, h3⟩ := h
    have hs' : v.cells.toList.length = sz d := by simpa using Rep.sz h2
    simp only [List.take_succ_cons, List.drop_succ_cons, szs]
    rw [← hs', List.drop_length_add_append]
    exact Reps.drop i h3
abbrev Env := List (Nat × D)
def lk : Env → Nat → Option D
  | [], _ => none
  | (k, d) :: r, s => bif Nat.beq k s then some d else lk r s
inductive Ob where
  | cell (b : Nat) (d : D)
  | row (u : Value) (n : Nat) (e : TypeId) (s : Nat)
  | arr (b : Nat) (l : List D) (e : TypeId) (s : Nat)
  | vec (u : Value) (l : List D) (e : TypeId) (s : Nat)
  | map (r : Nat) (kv : List (D × D))
  | mapE (r : Nat) (kv : List (D × D)) (es : Array MapEntry) (clock : Nat)
  | iter (b r since : Nat) (seen : Array Nat) (last : Nat)
  | aux (b : Nat) (o : Obj)
  | loop (l : Nat) (env : Env) (L : Loop)
abbrev St := List Ob
def Ob.blk : Ob → Option Nat
  | .cell b _ => some b
  | .row u _ _ _ => u.ownBlock
  | .arr _ [] _ _ => none
  | .arr b (_ :: _) _ _ => some b
  | .vec u _ _ _ => u.ownBlock
  | .map r _ => some r
  | .mapE r _ _ _ => some r
  | .iter b _ _ _ _ => some b
  | .aux b _ => some b
  | .loop l _ _ => some l
def blks (σ : St) : List Nat := σ.filterMap Ob.blk
def RepKV (p : Addr → Prop) (w : World) : List (D × D) → List MapEntry → Prop
  | [], es => es = []
  | (k, d) :: kv, es => ∃ e rest, es = e :: rest ∧ Rep p w k e.key ∧ Rep p w d e.val ∧ RepKV p w kv rest
theorem RepKV.grow {p p' : Addr → Prop} {w w' : World} (g : Grow p w p' w') : ∀ {kv : List (D × D)} {es : List MapEntry}, RepKV p w kv es → RepKV p' w' kv es
  | [], _, h => h
  | _ :: _, _, ⟨e, rest, h1, h2, h3, h4⟩ => ⟨e, rest, h1, h2.grow g, h3.grow g, RepKV.grow g h4⟩
def ObOk (p : Addr → Prop) (w : World) : Ob → Prop
  | .cell b d => ∃ v ty, Rep p w d v ∧ d.plain = true ∧ w.heap[b]? = some (.cells v.cells ty (0, 0)) ∧ ∀ a, p a → a.block ≠ b
  | .row u n e s => (∃ xs, w.ownsRow 0 e s u n xs) ∧ ∀ g, u.ownBlock = some g → ∀ a, p a → a.block = g → a.off < n * s
  | .arr b l e s => AllSz s l ∧ l.length ≤ 9223372036854775807 ∧ 0 < s ∧ (l = [] ∨ ∃ xs junk, Reps p w l xs ∧ (∀ u ∈ xs, u.oneCell' = true) ∧ w.heap[b]? = some (.cells (xs ++ junk).toArray e (0, 0)) ∧ ∀ a, p a → a.block ≠ b)
  | .vec u l e s => AllSz s l ∧ 0 < s ∧ (∃ xs, w.ownsRow 0 e s u l.length xs ∧ Reps p w l xs ∧ ∀ x ∈ xs, x.oneCell' = true) ∧ ∀ g, u.ownBlock = some g → ∀ a, p a → a.block ≠ g
  | .map r kv => ∃ es clock, w.heap[r]? = some (.map es clock) ∧ RepKV p w kv es.toList ∧ kv.length ≤ 9223372036854775807 ∧ (es.toList.map (·.born)).Nodup ∧ ∀ e ∈ es.toList, e.born < clock
  | .mapE r kv es clock => w.heap[r]? = some (.map es clock) ∧ RepKV p w kv es.toList ∧ kv.length ≤ 9223372036854775807 ∧ (es.toList.map (·.born)).Nodup ∧ ∀ e ∈ es.toList, e.born < clock
  | .iter b r since seen last => w.heap[b]? = some (.mapIter (some r) since seen last)
  | .aux b o => w.heap[b]? = some o
  | .loop l env L => w.heap[l]? = some (.loop L) ∧ ∀ t d, lk env t = some d → Rep p w d (L.tmps.getD t Go.undef)
structure Ctx where
  w0 : World
  p0 : Addr → Prop
  F0 : Nat → Prop
  X : D → St → Prop := fun _ _ => False
structure Inv (K : Ctx) (p : Addr → Prop) (σ : St) (w : World) : Prop where
  ok : ∀ o ∈ σ, ObOk p w o
  nd : (blks σ).Nodup
  mine : ∀ b ∈ blks σ, K.w0.heap.size ≤ b ∨ K.F0 b
  pub : ∀ a, p a → ∃ v, w.cell? a = some v
  gr : Grow K.p0 K.w0 p w
  neu : ∀ a, p a → K.p0 a ∨ K.w0.heap.size ≤ a.block ∨ K.F0 a.block
  os : w.os = K.w0.os
  tape : w.tape = K.w0.tape
  output : w.output = K.w0.output
  size : K.w0.heap.size ≤ w.heap.size
  block : ∀ b, b < K.w0.heap.size → ¬ K.F0 b → w.heap[b]? = K.w0.heap[b]?
theorem qns {w : World} {a : Addr} {v : Value} (h : w.cell? a = some v) : a.block < w.heap.size := World.block_lt_of_cell? w a h
theorem qmh {w w' : World} {a : Addr} (h : w'.heap[a.block]? = w.heap[a.block]?) : w'.cell? a = w.cell? a := World.cell?_of_block h
theorem ObOk.lt {p : Addr → Prop} {w : World} {o : Ob} (h : ObOk p w o) {b : Nat} (hb : o.blk = some b) : b < w.heap.size := by
  cases o with
  | cell b' d =>
    obtain ⟨v, ty, _, _, h3, _⟩ := h
    simp only [Ob.blk, Option.some.injEq] at hb
    subst hb
    exact (Array.getElem?_eq_some_iff.1 h3).1
  | row u n e s =>
    obtain ⟨⟨xs, h1⟩, _⟩ := h
    exact (h1.lt b hb).2
  | arr b' l e s =>
    obtain ⟨_, _, _, h⟩ := h
    cases l with
    | nil => simp [Ob.blk] at hb
    | cons x l =>
      obtain ⟨xs, junk, _, _, h3, _⟩ := h.resolve_left (by simp)
      simp only [Ob.blk, Option.some.injEq] at hb
      subst hb
      exact (Array.getElem?_eq_some_iff.1 h3).1
  | vec u l e s =>
    obtain ⟨_, _, ⟨xs, h1, _⟩, _⟩ := h
    exact (h1.lt b hb).2
  | map r kv =>
    obtain ⟨es, cl, h3, _⟩ := h
    simp only [Ob.blk, Option.some.injEq] at hb
    subst hb
    exact (Array.getElem?_eq_some_iff.1 h3).1
  | mapE r kv es cl =>
    obtain ⟨h3, _⟩ := h
    simp only [Ob.blk, Option.some.injEq] at hb
    subst hb
    exact (Array.getElem?_eq_some_iff.1 h3).1
  | iter b' r s seen l =>
    simp only [Ob.blk, Option.some.injEq] at hb
    subst hb
    exact (Array.getElem?_eq_some_iff.1 (show w.heap[b']? = some _ from h)).1
  | aux b' o =>
    simp only [Ob.blk, Option.some.injEq] at hb
    subst hb
    exact (Array.getElem?_eq_some_iff.1 (show w.heap[b']? = some _ from h)).1
  | loop b' env L =>
    simp only [Ob.blk, Option.some.injEq] at hb
    subst hb
    exact (Array.getElem?_eq_some_iff.1 (show w.heap[b']? = some _ from h.1)).1
theorem ObOk.keep {p p' : Addr → Prop} {w w' : World} {o : Ob} (h : ObOk p w o) (g : Grow p w p' w') (hh : ∀ b, o.blk = some b → w'.heap[b]? = w.heap[b]?) (hp : ∀ a b, p' a → o.blk = some b → a.block = b → p a) : ObOk p' w' o := by
  cases o with
  | cell b d =>
    obtain ⟨v, ty, h1, h2, h3, h4⟩ := h
    exact ⟨v, ty, h1.grow g, h2, (hh b rfl).trans h3, fun a ha hb => h4 a (hp a b ha rfl hb) hb⟩
  | row u n e s =>
    obtain ⟨⟨xs, h1, h2⟩, h3⟩ := h
    refine ⟨⟨xs, h1, ?_⟩, fun g' hg a ha hb => h3 g' hg a (hp a g' ha hg hb) hb⟩
    rcases h2 with h2 | ⟨g', cap, cur, rfl, h4, h5, h6⟩
    · exact .inl h2
    · exact .inr ⟨g', cap, cur, rfl, h4, (hh g' rfl).trans h5, h6⟩
  | arr b l e s =>
    obtain ⟨h1, h2, h0, h⟩ := h
    refine ⟨h1, h2, h0, ?_⟩
    cases l with
    | nil => exact .inl rfl
    | cons x l =>
      obtain ⟨xs, junk, h3, h4, h5, h6⟩ := h.resolve_left (by simp)
      exact .inr ⟨xs, junk, h3.grow g, h4, (hh b rfl).trans h5, fun a ha hb => h6 a (hp a b ha rfl hb) hb⟩
  | vec u l e s =>
    obtain ⟨h1, h2, ⟨xs, ⟨h3, h4⟩, h5, h6⟩, h7⟩ := h
    refine ⟨h1, h2, ⟨xs, ⟨h3, ?_⟩, h5.grow g, h6⟩, fun g' hg a ha hb => h7 g' hg a (hp a g' ha hg hb) hb⟩
    rcases h4 with h4 | ⟨g', cap, cur, rfl, k1, k2, k3⟩
    · exact .inl h4
    · exact .inr ⟨g', cap, cur, rfl, k1, (hh g' rfl).trans k2, k3⟩
  | map r kv =>
    obtain ⟨es, cl, h3, h4, h5⟩ := h
    exact ⟨es, cl, (hh r rfl).trans h3, h4.grow g, h5⟩
  | mapE r kv es cl =>
    obtain ⟨h3, h4, h5⟩ := h
    exact ⟨(hh r rfl).trans h3, h4.grow g, h5⟩
  | iter b r s seen l => exact (hh b rfl).trans h
  | aux b o => exact (hh b rfl).trans h
  | loop b env L => exact ⟨(hh b rfl).trans h.1, fun t d ht => (h.2 t d ht).grow g⟩
theorem qho {σ : St} {b : Nat} : b ∈ blks σ ↔ ∃ o ∈ σ, o.blk = some b := by simp [blks, List.mem_filterMap]
theorem qil (σ τ : St) : blks (σ ++ τ) = blks σ ++ blks τ := by simp [blks]
theorem qoq {σ τ : St} (h : σ.Perm τ) : (blks σ).Perm (blks τ) := h.filterMap _
theorem Inv.lt {K : Ctx} {p : Addr → Prop} {σ : St} {w : World} (h : Inv K p σ w) {b : Nat} (hb : b ∈ blks σ) : b < w.heap.size := by
  obtain ⟨o, ho, hb⟩ := qho.1 hb
  exact (h.ok o ho).lt hb
theorem Inv.perm {K : Ctx} {p : Addr → Prop} {σ τ : St} {w : World} (h : Inv K p σ w) (hp : σ.Perm τ) : Inv K p τ w :=
  ⟨fun o ho => h.ok o (hp.mem_iff.2 ho), (qoq hp).nodup_iff.1 h.nd, fun b hb => h.mine b ((qoq hp).mem_iff.2 hb), h.pub, h.gr, h.neu, h.os, h.tape, h.output, h.size, h.block⟩
theorem Inv.less {K : Ctx} {p : Addr → Prop} {σ τ : St} {w : World} (h : Inv K p (σ ++ τ) w) : Inv K p σ w := by
  have hn := h.nd
  rw [qil] at hn
  exact ⟨fun o ho => h.ok o (List.mem_append_left _ ho), (List.nodup_append.1 hn).1, fun b hb => h.mine b (by rw [qil]; exact List.mem_append_left _ hb), h.pub, h.gr, h.neu, h.os, h.tape, h.output, h.size, h.block⟩
def ctx (w : World) (p : Addr → Prop) (σ : St) : Ctx := { w0 := w, p0 := p, F0 := fun b => b ∈ blks σ }
theorem Inv.enter {K : Ctx} {p : Addr → Prop} {σ τ : St} {w : World} (h : Inv K p (σ ++ τ) w) : Inv (ctx w p σ) p σ w :=
  let h' := h.less
  ⟨h'.ok, h'.nd, fun _ hb => .inr hb, h.pub, Grow.refl p w, fun _ ha => .inl ha, rfl, rfl, rfl, Nat.le_refl _, fun _ _ _ => rfl⟩
theorem Inv.leave {K : Ctx} {p p' : Addr → Prop} {σ σ' τ : St} {w w' : World} (h : Inv K p (σ ++ τ) w) (h' : Inv (ctx w p σ) p' σ' w') : Inv K p' (σ' ++ τ) w' := by
  have hn := h.nd
  rw [qil] at hn
  obtain ⟨hn1, hn2, hn3⟩ := List.nodup_append.1 hn
  have ht : ∀ o ∈ τ, ∀ b, o.blk = some b → b < w.heap.size ∧ b ∉ blks σ := fun o ho b hb => ⟨(h.ok o (List.mem_append_right _ ho)).lt hb, fun hm => hn3 b hm b (qho.2 ⟨o, ho, hb⟩) rfl⟩
  refine ⟨fun o ho => ?_, ?_, fun b hb => ?_, h'.pub, h.gr.tr h'.gr, fun a ha => ?_, h'.os.trans h.os, h'.tape.trans h.tape, h'.output.trans h.output, Nat.le_trans h.size h'.size, fun b hb hF => ?_⟩
  · rcases List.mem_append.1 ho with ho | ho
    · exact h'.ok o ho
    · refine (h.ok o (List.mem_append_right _ ho)).keep h'.gr (fun b hb => h'.block b (ht o ho b hb).1 (ht o ho b hb).2) fun a b ha hb hab => ?_
      rcases h'.neu a ha with h1 | h1 | h1
      · exact h1
      · have := (ht o ho b hb).1
        simp only [ctx] at h1
        omega
      · exact absurd (hab ▸ h1) (ht o ho b hb).2
  · rw [qil]
    refine List.nodup_append.2 ⟨h'.nd, hn2, fun a ha b hb hab => ?_⟩
    subst hab
    obtain ⟨o, ho, hb⟩ := qho.1 hb
    rcases h'.mine a ha with h1 | h1
    · have := (ht o ho a hb).1
      simp only [ctx] at h1
      omega
    · exact (ht o ho a hb).2 h1
  · rw [qil] at hb
    rcases List.mem_append.1 hb with hb | hb
    · rcases h'.mine b hb with h1 | h1
      · exact .inl (Nat.le_trans h.size h1)
      · exact h.mine b (by rw [qil]; exact List.mem_append_left _ h1)
    · exact h.mine b (by rw [qil]; exact List.mem_append_right _ hb)
  · rcases h'.neu a ha with h1 | h1 | h1
    · exact h.neu a h1
    · exact .inr (.inl (Nat.le_trans h.size h1))
    · exact .inr (h.mine _ (by rw [qil]; exact List.mem_append_left _ h1))
  · refine (h'.block b (Nat.lt_of_lt_of_le hb h.size) fun hm => ?_).trans (h.block b hb hF)
    rcases h.mine b (by rw [qil]; exact List.mem_append_left _ hm) with h1 | h1
    · omega
    · exact hF h1
def Left (K : Ctx) (R : D → St → Prop) (e : Ending) (w : World) : Prop := (∃ v d σ p, e = .returned v ∧ R d σ ∧ Rep p w d v ∧ Inv K p σ w) ∨ ∃ v d σ p, e = .panicked [{ v, recovered := false }] ∧ K.X d σ ∧ Rep p w d v ∧ Inv K p σ w
def Spec (P : Program) (f : FuncId) (ds : List D) (σ : St) (R : D → St → Prop) : Prop :=
  ∀ (w : World) (p : Addr → Prop) (vs : List Value), Inv (ctx w p σ) p σ w → Repl p w ds vs → Calls P f vs.toArray w (Left (ctx w p σ) R)
def Gives (P : Program) (f : FuncId) (ds : List D) (d : D) : Prop := Spec P f ds [] fun d' _ => d' = d
/-! ### small steps of the state -/
section
variable {K : Ctx} {p : Addr → Prop} {σ : St} {w : World}
theorem qjk (p : Addr → Prop) (w : World) : Grow p w p w.drew := fun _ ha => ⟨ha, rfl⟩
theorem Inv.drew (h : Inv K p σ w) : Inv K p σ w.drew := ⟨fun o ho => (h.ok o ho).keep (qjk p w) (fun _ _ => rfl) fun _ _ ha _ _ => ha, h.nd, h.mine, h.pub, h.gr.tr (qjk p w), h.neu, h.os, h.tape, h.output, h.size, h.block⟩
theorem qhK (hp : ∀ a, p a → ∃ v, w.cell? a = some v) (o : Obj) : Grow p w p (w.alloc o) := fun a ha => ⟨ha, by
  obtain ⟨v, hv⟩ := hp a ha
  exact qmh (Below.heap_alloc w o _ (qns hv))⟩
theorem Inv.alloc (h : Inv K p σ w) (o : Obj) : Inv K p σ (w.alloc o) := by
  have g := qhK h.pub o
  refine ⟨fun o' ho => ?_, h.nd, h.mine, fun a ha => ?_, h.gr.tr g, h.neu, h.os, h.tape, h.output, Nat.le_trans h.size (by simp), fun b hb hF => (Below.heap_alloc w o b (Nat.lt_of_lt_of_le hb h.size)).trans (h.block b hb hF)⟩
  · exact (h.ok o' ho).keep g (fun b hb => Below.heap_alloc w o b ((h.ok o' ho).lt hb)) fun a _ ha _ _ => ha
  · obtain ⟨v, hv⟩ := h.pub a ha
    exact ⟨v, ((g a ha).2).trans hv⟩
theorem Inv.give (h : Inv K p σ w) (q : Addr → Prop) (hq : ∀ a, q a → (∃ v, w.cell? a = some v) ∧ (K.w0.heap.size ≤ a.block ∨ K.F0 a.block) ∧ ∀ o ∈ σ, ∀ b, o.blk = some b → a.block = b → p a) : Inv K (fun a => p a ∨ q a) σ w := by
  have g : Grow p w (fun a => p a ∨ q a) w := fun a ha => ⟨.inl ha, rfl⟩
  refine ⟨fun o ho => ?_, h.nd, h.mine, fun a ha => ?_, h.gr.tr g, fun a ha => ?_, h.os, h.tape, h.output, h.size, h.block⟩
  · exact (h.ok o ho).keep g (fun _ _ => rfl) fun a b ha hb hab => ha.elim id fun h' => (hq a h').2.2 o ho b hb hab
  · exact ha.elim (h.pub a) fun h' => (hq a h').1
  · exact ha.elim (h.neu a) fun h' => .inr (hq a h').2.1
theorem qla (p q : Addr → Prop) (w : World) : Grow p w (fun a => p a ∨ q a) w := fun a ha => ⟨.inl ha, rfl⟩
theorem Inv.more (h : Inv K p σ w) {o : Ob} (ho : ObOk p w o) (hb : ∀ b, o.blk = some b → (K.w0.heap.size ≤ b ∨ K.F0 b) ∧ b ∉ blks σ) : Inv K p (o :: σ) w := by
  refine ⟨fun o' ho' => (List.mem_cons.1 ho').elim (fun e => e ▸ ho) (h.ok o'), ?_, fun b hb' => ?_, h.pub, h.gr, h.neu, h.os, h.tape, h.output, h.size, h.block⟩
  · cases hx : o.blk with
    | none => simpa [blks, hx] using h.nd
    | some b =>
      have := (hb b hx).2
      simp only [blks] at this ⊢
      simp only [List.filterMap_cons, hx, List.nodup_cons]
      exact ⟨this, h.nd⟩
  · obtain ⟨o', ho', hx⟩ := qho.1 hb'
    rcases List.mem_cons.1 ho' with rfl | ho'
    · exact (hb b hx).1
    · exact h.mine b (qho.2 ⟨o', ho', hx⟩)
theorem Inv.tail {o : Ob} (h : Inv K p (o :: σ) w) : Inv K p σ w := (h.perm (List.perm_append_comm (l₁ := [o]) (l₂ := σ))).less
theorem Inv.write {o o' : Ob} {w' : World} {p' : Addr → Prop} {b : Nat} (h : Inv K p (o :: σ) w) (hb : o.blk = some b) (hb' : o'.blk = some b) (g : Grow p w p' w') (hnew : ∀ a, p' a → p a ∨ a.block = b) (ho : ObOk p' w' o') (hpub : ∀ a, p' a → ∃ v, w'.cell? a = some v)
    (hos : w'.os = w.os) (ht : w'.tape = w.tape) (hou : w'.output = w.output) (hsz : w'.heap.size = w.heap.size) (hbl : ∀ k, k ≠ b → w'.heap[k]? = w.heap[k]?) : Inv K p' (o' :: σ) w' := by
  have hn := h.nd
  have hm := h.mine b (qho.2 ⟨o, List.mem_cons_self .., hb⟩)
  have hne : b ∉ blks σ := by
    simp only [blks, List.filterMap_cons, hb, List.nodup_cons] at hn
    exact hn.1
  have key : ∀ o'' ∈ σ, ∀ k, o''.blk = some k → k ≠ b := fun o'' ho'' k hk e => hne (qho.2 ⟨o'', ho'', e ▸ hk⟩)
  refine ⟨fun o'' ho'' => ?_, ?_, fun k hk => ?_, hpub, h.gr.tr g, fun a ha => ?_, hos.trans h.os, ht.trans h.tape, hou.trans h.output, hsz ▸ h.size, fun k hk hF => ?_⟩
  · rcases List.mem_cons.1 ho'' with rfl | ho''
    · exact ho
    · exact (h.tail.ok o'' ho'').keep g (fun k hk => hbl k (key o'' ho'' k hk)) fun a k ha hk hak => (hnew a ha).resolve_right fun e => key o'' ho'' k hk (hak ▸ e)
  · simp only [blks, List.filterMap_cons, hb, hb', List.nodup_cons] at hn ⊢
    exact hn
  · obtain ⟨o'', ho'', hx⟩ := qho.1 hk
    rcases List.mem_cons.1 ho'' with rfl | ho''
    · rw [hb'] at hx; injection hx with hx; exact hx ▸ hm
    · exact h.mine k (qho.2 ⟨o'', List.mem_cons_of_mem _ ho'', hx⟩)
  · rcases hnew a ha with h1 | h1
    · exact h.neu a h1
    · rw [h1]; exact .inr hm
  · refine (hbl k fun e => ?_).trans (h.block k hk hF)
    subst e
    rcases hm with h1 | h1
    · omega
    · exact hF h1
end
def constD : Value → Option D
  | .bool b => some (.bool b)
  | .int k n => some (.int k n)
  | .string s => some (.str s)
  | .slice none 0 0 => some (.full [])
  | .nilFunc => some .nilf
  | .map none => some .nilm
  | .pointer none => some .nilp
  | .nilIface => some .nili
  | _ => none
def ev (env : Env) : Operand → Option D
  | .tmp t => lk env t
  | .const v => constD v
  | .func f => some (.clo (.func f) [] [])
  | .global _ => none
def okVal : Value → Bool
  | .int k n => k.wrap n == n
  | .string s => decide (s.size ≤ 9223372036854775807)
  | _ => true
def okOpnd : Operand → Bool
  | .const v => okVal v
  | _ => true
def RelEnv (p : Addr → Prop) (w : World) (env : Env) (a : Act) : Prop := ∀ t d, lk env t = some d → Rep p w d (a.tmps.getD t Go.undef)
theorem RelEnv.grow {p p' : Addr → Prop} {w w' : World} {env : Env} {a : Act} (h : RelEnv p w env a) (g : Grow p w p' w') : RelEnv p' w' env a := fun t d ht => (h t d ht).grow g
theorem qm1 {p : Addr → Prop} {w : World} {v : Value} {d : D} (h : constD v = some d) (ho : okVal v = true) : Rep p w d v := by
  unfold constD at h
  split at h <;> first | (injection h with h; subst h) | (cases h; done)
  · simp only [Rep]
  · simpa [Rep, okVal] using ho
  · simpa [Rep, okVal] using ho
  · simp only [Rep]; exact ⟨none, [], rfl, by simp, .inl rfl, Reps.nil _ _, by simp⟩
  · simp only [Rep]
  · simp only [Rep]
  · simp only [Rep]
  · simp only [Rep]
theorem qtB {p : Addr → Prop} {w : World} {env : Env} {a : Act} (h : RelEnv p w env a) {x : Operand} {d : D} (hx : ev env x = some d) (ho : okOpnd x = true) : Rep p w d (a.eval x) := by
  cases x with
  | tmp t => exact h t d hx
  | const v => exact qm1 hx ho
  | func f =>
    injection hx with hx
    subst hx
    simp only [Rep]
    exact ⟨[], [], rfl, Repl.nil _ _, Repl.nil _ _⟩
  | global g => cases hx
theorem qfA (k : Nat) (d : D) (env : Env) (s : Nat) : lk ((k, d) :: env) s = if k = s then some d else lk env s := by
  simp only [lk]
  by_cases h : k = s
  · subst h; simp
  · rw [if_neg h]
    have : Nat.beq k s = false := by
      cases hb : Nat.beq k s
      · rfl
      · exact absurd (Nat.eq_of_beq_eq_true hb) h
    rw [this]; rfl
def Env.put (env : Env) (dst : Option Tmp) (d : D) : Env := match dst with
  | some t => (t, d) :: env
  | none => env
theorem RelEnv.put {p : Addr → Prop} {w : World} {env : Env} {a : Act} {dst : Option Tmp} {d : D} {v : Value} (h : RelEnv p w env a) (hv : Rep p w d v) (hd : ∀ t, dst = some t → t < a.tmps.size) : RelEnv p w (env.put dst d) (a.put dst v) := by
  cases dst with
  | none => exact h
  | some t =>
    intro s e hs
    rw [Env.put, qfA] at hs
    simp only [Act.put]
    by_cases hts : t = s
    · subst hts
      rw [if_pos rfl] at hs
      injection hs with hs
      subst hs
      simpa [hd t rfl] using hv
    · rw [if_neg hts] at hs
      have := h s e hs
      simpa [Array.getElem?_setIfInBounds_ne hts] using this
def Sub (env' env : Env) : Prop := ∀ t d, lk env' t = some d → ∃ e, lk env t = some e ∧ Wk e d
theorem Sub.nil (env : Env) : Sub [] env := fun _ _ h => by cases h
theorem Sub.cons {env' env : Env} {k : Nat} {d e : D} (h : lk env k = some e) (hw : Wk e d) (hs : Sub env' env) : Sub ((k, d) :: env') env := fun t d' ht => by
  rw [qfA] at ht
  by_cases hk : k = t
  · subst hk
    rw [if_pos rfl] at ht
    injection ht with ht
    subst ht
    exact ⟨e, h, hw⟩
  · rw [if_neg hk] at ht
    exact hs t d' ht
theorem Sub.cons' {env' env : Env} {k : Nat} {d : D} (h : lk env k = some d) (hs : Sub env' env) : Sub ((k, d) :: env') env := Sub.cons h (Wk.refl d) hs
theorem RelEnv.sub {p : Addr → Prop} {w : World} {env env' : Env} {a : Act} (h : RelEnv p w env a) (hs : Sub env' env) : RelEnv p w env' a := fun t d ht =>
  let ⟨e, h1, h2⟩ := hs t d ht
  h2 _ _ _ (h t e h1)
theorem addF (b o k : Nat) : (⟨b, o, none⟩ : Addr).add k = ⟨b, o + k, none⟩ := by
  unfold Addr.add; split
  · rename_i h; simp [h]
  · rfl
structure Md where
  rd : Option Nat
  ms : List Nat
  ds : List Deferred
  kd : CallKind
abbrev Md.top : Md := ⟨none, [], [], .normal⟩
def LeavesAs (kd : CallKind) (P : Program) (fr : Frame) (w : World) : Ending → Prop
  | .returned v => fr.mode = .returning ∧ fr.defers = [] ∧ fr.kind = kd ∧ ∃ fn, P.funcs[fr.fn]? = some fn ∧ (results fn fr.tmps).run P w = .ok v w
  | .panicked chain => fr.mode = .panicking chain ∧ fr.defers = [] ∧ ∃ fn, P.funcs[fr.fn]? = some fn
  | .outgrown => True
theorem LeavesAs.normal {P : Program} {fr : Frame} {w : World} {e : Ending} (h : LeavesAs .normal P fr w e) : fr.leaving P w e := by
  cases e with
  | returned v => exact h
  | panicked c => exact h
  | outgrown => trivial
def Md.marks (m : Md) : List Deferred := m.ds ++ m.ms.map fun D => { target := .collected D, args := #[] }
def Fin (rd : Option Nat) (kd : CallKind) (P : Program) (f : FuncId) (K : Ctx) (R : D → St → Prop) (fr0 : Frame) (cs : List Frame) (w : World) : Prop :=
  match rd with
  | none => ∃ e w' fr, Left K R e w' ∧ Comes P (lone fr0 cs w) (lone fr cs w') e ∧ fr.fn = f ∧ LeavesAs kd P fr w' e
  | some _ => ∀ c cs', cs = c :: cs' → ∃ v w', Left K R (.returned v) w' ∧ Steps P (lone fr0 cs w) (lone (c.finish v) cs' w')
theorem Fin.of_steps {rd : Option Nat} {kd : CallKind} {P : Program} {f : FuncId} {K : Ctx} {R : D → St → Prop} {fr0 fr1 : Frame} {cs : List Frame} {w w1 : World} (hs : Steps P (lone fr0 cs w) (lone fr1 cs w1)) (h : Fin rd kd P f K R fr1 cs w1) : Fin rd kd P f K R fr0 cs w := by
  cases rd with
  | none =>
    obtain ⟨e, w', fr, h1, h2, h3, h4⟩ := h
    exact ⟨e, w', fr, h1, .of_steps hs h2, h3, h4⟩
  | some l =>
    intro c cs' hc
    obtain ⟨v, w', h1, h2⟩ := h c cs' hc
    exact ⟨v, w', h1, hs.trans h2⟩
def Rest (m : Md) (P : Program) (f : FuncId) (fn : Func) (K : Ctx) (R : D → St → Prop) (k : List Item) (a : Act) (w : World) : Prop :=
  ∀ (b : Frame) (cs : List Frame), b.fn = f → b.kind = m.kd → b.roundOf = m.rd → P.funcs[f]? = some fn → Fin m.rd m.kd P f K R (b.atR a k) cs w
def GoesG (m : Md) (P : Program) (f : FuncId) (fn : Func) (K : Ctx) (R : D → St → Prop) (k : List Item) (env : Env) (σ : St) : Prop :=
  ∀ (p : Addr → Prop) (a : Act) (w : World), Inv K p σ w → RelEnv p w env a → fn.ntmps ≤ a.tmps.size → a.defers = m.marks → Rest m P f fn K R k a w
abbrev Goes (P : Program) (f : FuncId) (fn : Func) (K : Ctx) (R : D → St → Prop) (k : List Item) : Env → St → Prop := GoesG Md.top P f fn K R k
def fw : Option Nat → Fence
  | none => Fence.wide
  | some l => Fence.wide.inRound l
theorem qnn (rd : Option Nat) : (fw rd).round = rd := by cases rd <;> rfl
theorem qnI (rd : Option Nat) (f : FuncId) : (fw rd).fn f := by cases rd <;> trivial
theorem qoQ (rd : Option Nat) (n : Nat) : (fw rd).room n := by cases rd <;> exact room_wide _
theorem qlk {rd : Option Nat} {P : Program} {m m' : Machine} (h : StepsIn (Machine.fenced P (fw rd)) P m m') : Steps P m m' := by
  cases rd <;> exact stepsIn_wide.1 h
theorem qsA {rd : Option Nat} {n : Nat} {P : Program} {f : FuncId} {args : Array Value} {w : World} {R : Ending → World → Prop} (h : Calls P f args w R) : CallsIn (fw rd) n P f args w R := by
  cases rd with
  | none => exact callsIn_wide.2 h
  | some l => exact CallsIn.inRound l (callsIn_wide.2 h)
section
variable {m : Md} {P : Program} {f : FuncId} {fn : Func} {K : Ctx} {R : D → St → Prop} {k : List Item} {env : Env} {σ : St}
theorem qmt {k' : List Item} (hs : ∀ (b : Frame) (a : Act) (cs : List Frame) (w : World), step P (lone (b.atR a k) cs w) = .next (lone (b.atR a k') cs w)) (h : GoesG m P f fn K R k' env σ) : GoesG m P f fn K R k env σ :=
  fun p a w hi hr hn hd b cs hb hk hro hf => .of_steps (.one (hs b a cs w)) (h p a w hi hr hn hd b cs hb hk hro hf)
theorem qk {x y : Code} (h : GoesG m P f fn K R (.code x :: .code y :: k) env σ) : GoesG m P f fn K R (.code (.seq x y) :: k) env σ := qmt (fun _ _ _ _ => stepR_seq) h
theorem qab (h : GoesG m P f fn K R k env σ) : GoesG m P f fn K R (.code .skip :: k) env σ := qmt (fun _ _ _ _ => stepR_skip) h
theorem qac {id : Nat} (h : GoesG m P f fn K R k env σ) : GoesG m P f fn K R (.inBlock id :: k) env σ := qmt (fun _ _ _ _ => stepR_inBlock) h
theorem qbi {id : Nat} {c : Code} (h : GoesG m P f fn K R (.code c :: .inBlock id :: k) env σ) : GoesG m P f fn K R (.code (.block id c) :: k) env σ := qmt (fun _ _ _ _ => stepR_block) h
theorem qbC {id : Nat} {k' : List Item} (he : exitTo id k = some k') (h : GoesG m P f fn K R k' env σ) : GoesG m P f fn K R (.code (.exit id) :: k) env σ := qmt (fun _ _ _ _ => stepR_exit he) h
theorem qsw {c : Code} (h : GoesG m P f fn K R (.code c :: .inLoop c :: k) env σ) : GoesG m P f fn K R (.inLoop c :: k) env σ := qmt (fun _ _ _ _ => stepR_inLoop) h
theorem qpC {c : Operand} {x y : Code} {t : Bool} (hc : ev env c = some (.bool t)) (ho : okOpnd c = true) (h1 : t = true → GoesG m P f fn K R (.code x :: k) env σ) (h2 : t = false → GoesG m P f fn K R (.code y :: k) env σ) : GoesG m P f fn K R (.code (.cond c x y) :: k) env σ :=
  fun p a w hi hr hn hd b cs hb hk hro hf => by
    have hv := qtB hr hc ho
    simp only [Rep] at hv
    have hs := stepR_cond (P := P) (b := b) (k := k) (cs := cs) (w := w) (x := x) (y := y) hv
    cases t with
    | true => exact .of_steps (.one hs) (h1 rfl p a w hi hr hn hd b cs hb hk hro hf)
    | false => exact .of_steps (.one hs) (h2 rfl p a w hi hr hn hd b cs hb hk hro hf)
theorem qdb {c : Code} (I : Nat → Env → St → Prop) (n : Nat) (h0 : I n env σ) (round : ∀ n env σ, I n env σ → (∀ m' env' σ', m' < n → I m' env' σ' → GoesG m P f fn K R (.inLoop c :: k) env' σ') → GoesG m P f fn K R (.code c :: .inLoop c :: k) env σ) : GoesG m P f fn K R (.code (.loop c) :: k) env σ := by
  refine qmt (fun _ _ _ _ => stepR_loop) ?_
  have key : ∀ n env σ, I n env σ → GoesG m P f fn K R (.code c :: .inLoop c :: k) env σ := by
    intro n
    induction n using Nat.strongRecOn with
    | _ n ih => exact fun env σ hI => round n env σ hI fun m env' σ' hm hI' => qsw (ih m hm env' σ' hI')
  exact key n env σ h0
theorem qan (env' : Env) (hs : Sub env' env) (h : GoesG m P f fn K R k env' σ) : GoesG m P f fn K R k env σ := fun p a w hi hr => h p a w hi (hr.sub hs)
theorem qar (σ' τ : St) (hs : σ.Perm (σ' ++ τ)) (h : GoesG m P f fn K R k env σ') : GoesG m P f fn K R k env σ := fun p a w hi => h p a w ((hi.perm hs).less)
def EndsR (P : Program) (K : Ctx) (n : Nat) (m : Md) (X : Env → D → St → Prop) (Q : Env → St → Prop) : Exit → Act → World → Prop := fun e a' w' =>
  (e = .normal ∧ ∃ env' σ' p', Q env' σ' ∧ Inv K p' σ' w' ∧ RelEnv p' w' env' a' ∧ n ≤ a'.tmps.size ∧ a'.defers = m.marks) ∨ ∃ v d τ p' env', e = .panic [{ v, recovered := false }] ∧ X env' d τ ∧ Rep p' w' d v ∧ Inv K p' τ w' ∧ RelEnv p' w' env' a' ∧ a'.defers = m.marks
theorem qli {id : Nat} {ops : Array Oper} {dr : Bool} {Q : Env → St → Prop} {X : Env → D → St → Prop} (h : ∀ (p : Addr → Prop) (a : Act) (w : World), Inv K p σ w → RelEnv p w env a → fn.ntmps ≤ a.tmps.size → a.defers = m.marks → (Code.region id ops dr).wpIn (fw m.rd) 0 P (EndsR P K fn.ntmps m X Q) a w)
    (hX : ∀ e d τ, X e d τ → K.X d τ ∧ m = Md.top) (hq : ∀ env' σ', Q env' σ' → GoesG m P f fn K R k env' σ') : GoesG m P f fn K R (.code (.region id ops dr) :: k) env σ := fun p a w hi hr hn hd b cs hb hk hro hf => by
  obtain ⟨e, a', w', hE, harr⟩ := h p a w hi hr hn hd b k cs (hro.trans (qnn _).symm) (qnI _ _) (qoQ _ _)
  rcases hE with ⟨rfl, env', σ', p', q, i1, i2, i3, i4⟩ | ⟨v, d, τ, p', env', rfl, hx, hv, hi', _, hd'⟩
  · exact .of_steps (qlk harr) (hq env' σ' q p' a' w' i1 i2 i3 i4 b cs hb hk hro hf)
  · obtain ⟨todo, hs⟩ := harr
    obtain ⟨hx, rfl⟩ := hX env' d τ hx
    exact ⟨.panicked [{ v, recovered := false }], w', { b.atR a' todo with mode := .panicking [{ v, recovered := false }] }, .inr ⟨v, d, τ, p', rfl, hx, hv, hi'⟩, qlk hs, hb, rfl, hd', fn, by rw [← hb] at hf; exact hf⟩
theorem qqD {C : Prop} (hC : ∀ (p : Addr → Prop) (a : Act) (w : World), Inv K p σ w → RelEnv p w env a → C) (h : C → GoesG m P f fn K R k env σ) : GoesG m P f fn K R k env σ := fun p a w hi hr => h (hC p a w hi hr) p a w hi hr
/-! ### the end -/
def isAggDesc : TypeDesc → Bool
  | .struct _ | .array _ _ => true
  | _ => false
def Ty (P : Program) (t : TypeId) (b : Bool) (n : Nat) : Prop := (∃ x, P.underlying t = some x ∧ isAggDesc x = b) ∧ (P.info? t).map (·.size) = some n
theorem qrV {t : TypeId} {b : Bool} {n : Nat} (h : Ty P t b n) (w : World) : (isAgg t).run P w = .ok b w := by
  obtain ⟨⟨x, hx, hb⟩, _⟩ := h
  unfold isAgg
  simp only [Sem.run_bind, run_underlying hx, Result.andThen_ok]
  cases x <;> simp_all [isAggDesc]
theorem qqa {t : TypeId} {b : Bool} {n : Nat} (h : Ty P t b n) (w : World) : (sizeOf t).run P w = .ok n w := by
  obtain ⟨_, hs⟩ := h
  obtain ⟨i, hi, hn⟩ := Option.map_eq_some_iff.1 hs
  simp [sizeOf, typeInfo, hi, hn]
theorem qj5 {t : TypeId} {n : Nat} {d : D} {p : Addr → Prop} {w : World} {u : Value} {b o : Nat} (ht : Ty P t d.isAgg n) (hn : sz d = n) (hu : Rep p w d u) (hc : ∀ j x, u.cells.toList[j]? = some x → w.cell? ⟨b, o + j, none⟩ = some x) : (loadVar t ⟨b, o, none⟩).run P w = .ok u w := by
  have hs := Rep.sz hu
  have hback := Rep.back hu
  unfold loadVar
  simp only [Sem.run_bind, qrV ht, Result.andThen_ok]
  have hc' : ∀ j v, u.cells.toList[j]? = some v → w.cell? ((⟨b, o, none⟩ : Addr).add j) = some v := fun j v hv => by rw [addF]; exact hc j v hv
  cases hd : d.isAgg with
  | true =>
    have hl := run_loadCells_list (P := P) w ⟨b, o, none⟩ u.cells.toList hc'
    rw [Array.length_toList, hs, hn] at hl
    simp only [if_true, Sem.run_bind, qqa ht, Result.andThen_ok, hl]
    rw [hback]
    cases d <;> simp [D.isAgg] at hd
    simp [reval, Value.cells]
  | false =>
    simp only [Bool.false_eq_true, if_false]
    have h1 : u.cells.toList[0]? = some u := by
      cases d <;> simp [D.isAgg] at hd <;> simp only [Rep] at hu
      case tup => obtain ⟨vs, rfl, _⟩ := hu; simp [Value.cells]
      case undef => subst hu; simp [Value.cells, Go.undef]
      case bool => subst hu; simp [Value.cells]
      case int => rw [hu.1]; simp [Value.cells]
      case str => rw [hu.1]; simp [Value.cells]
      case lst => obtain ⟨A, c, xs, rfl, _⟩ := hu; simp [Value.cells]
      case full => obtain ⟨A, xs, rfl, _⟩ := hu; simp [Value.cells]
      case own => obtain ⟨rfl, A, c, xs, rfl, _⟩ := hu; simp [Value.cells]
      case ptr => obtain ⟨b, o, u, rfl, _⟩ := hu; simp [Value.cells]
      case ref => subst hu; simp [Value.cells]
      case mref => subst hu; simp [Value.cells]
      case arr => obtain ⟨A, c, rfl, _⟩ := hu; simp [Value.cells]
      case vec => obtain ⟨rfl, A, c, rfl, _⟩ := hu; simp [Value.cells]
      case clo => obtain ⟨fs, cs, rfl, _⟩ := hu; simp [Value.cells]
      case nilf => subst hu; simp [Value.cells]
      case nilm => subst hu; simp [Value.cells]
      case nilp => subst hu; simp [Value.cells]
      case map => subst hu; simp [Value.cells]
      case ifc => obtain ⟨u, rfl, _⟩ := hu; simp [Value.cells]
      case nili => subst hu; simp [Value.cells]
    have h2 := hc 0 u h1
    simp only [Nat.add_zero] at h2
    simp [h2]
def ResD (P : Program) (env : Env) (σ : St) : ResultVar → D → Prop
  | .tmp t, d => ∃ e, lk env t = some e ∧ Wk e d
  | .cell t ty, d => ∃ e n, Wk e d ∧ Ty P ty e.isAgg n ∧ sz e = n ∧ (lk env t = some (.ptr e) ∨ ∃ b, lk env t = some (.ref b 0 []) ∧ .cell b e ∈ σ)
inductive ResDs (P : Program) (env : Env) (σ : St) : List ResultVar → List D → Prop
  | nil : ResDs P env σ [] []
  | cons {r : ResultVar} {d : D} {rs : List ResultVar} {ds : List D} (h : ResD P env σ r d) (k : ResDs P env σ rs ds) : ResDs P env σ (r :: rs) (d :: ds)
def packD : List D → D
  | [d] => d
  | ds => .tup ds
def getR (a : Act) : ResultVar → Sem Value
  | .tmp t => pure (a.tmps.getD t Go.undef)
  | .cell x t => do loadVar t (← asAddr (a.tmps.getD x Go.undef))
theorem qqw {p : Addr → Prop} {a : Act} {w : World} (hi : Inv K p σ w) (hr : RelEnv p w env a) {r : ResultVar} {d : D} (h : ResD P env σ r d) :
    ∃ v, (getR a r).run P w = .ok v w ∧ Rep p w d v := by
  cases r with
  | tmp t =>
    obtain ⟨e, h1, h2⟩ := h
    exact ⟨_, by simp [getR], h2 _ _ _ (hr t e h1)⟩
  | cell t ty =>
    obtain ⟨e, n, hw, ht, hn, h1 | ⟨b, h1, h2⟩⟩ := h
    · have := hr t _ h1
      simp only [Rep] at this
      obtain ⟨b, o, u, h3, h4, h5, h6⟩ := this
      have hl := qj5 (P := P) (b := b) (o := o) ht hn h5 (fun j x hx => by
        rcases h4 with h4 | ⟨b', o', h4, h7⟩
        · rw [h4] at hx; simp at hx
        · injection h4 with h4; injection h4 with h4 h8; subst h4 h8; exact (h7 j x hx).2)
      exact ⟨u, by simp only [getR, h3, asAddr, Sem.run_bind, Sem.run_pure, Result.andThen_ok, hl], hw _ _ _ h5⟩
    · have := hr t _ h1
      simp only [Rep] at this
      obtain ⟨u, ty', h3, h4, h5, h6⟩ := hi.ok _ h2
      have hl := qj5 (P := P) (b := b) (o := 0) ht hn h3 (fun j x hx => by
        rw [cell_of_row _ _ _ _ _ _ h5]
        simpa using hx)
      exact ⟨u, by simp only [getR, this, asAddr, Sem.run_bind, Sem.run_pure, Result.andThen_ok, hl], hw _ _ _ h3⟩
theorem qmg {p : Addr → Prop} {a : Act} {w : World} (hi : Inv K p σ w) (hr : RelEnv p w env a) : ∀ {rs : List ResultVar} {ds : List D}, ResDs P env σ rs ds →
    ∃ vs : List Value, (rs.mapM (getR a)).run P w = .ok vs w ∧ Repl p w ds vs
  | _, _, .nil => ⟨[], by simp, Repl.nil _ _⟩
  | _, _, .cons h k => by
    obtain ⟨v, h1, h2⟩ := qqw hi hr h
    obtain ⟨vs, h3, h4⟩ := qmg hi hr k
    exact ⟨v :: vs, by simp only [List.mapM_cons, Sem.run_bind, h1, Result.andThen_ok, h3, Sem.run_pure], Repl.cons h2 h4⟩
theorem qkG {p : Addr → Prop} {a : Act} {w : World} (hi : Inv K p σ w) (hr : RelEnv p w env a) {ds : List D} (h : ResDs P env σ fn.results.toList ds) : ∃ v, (results fn a.tmps).run P w = .ok v w ∧ Rep p w (packD ds) v := by
  obtain ⟨vs, h1, h2⟩ := qmg hi hr h
  have e : results fn a.tmps = (do let vs ← fn.results.mapM (getR a); pure (if h : vs.size = 1 then vs[0] else .tuple vs)) := by
    unfold results
    congr 1
  rw [e]
  have e2 : (fn.results.mapM (getR a)).run P w = .ok vs.toArray w := by
    rw [Array.mapM_eq_mapM_toList]
    simp [h1]
  simp only [Sem.run_bind, e2, Result.andThen_ok, Sem.run_pure]
  refine ⟨_, rfl, ?_⟩
  match ds, vs, h2 with
  | [], vs, h2 =>
    simp only [Repl] at h2
    subst h2
    simp only [packD, Rep, Repl]
    exact ⟨[], rfl, rfl⟩
  | [d], vs, h2 =>
    simp only [Repl] at h2
    obtain ⟨v, rest, rfl, h3, rfl⟩ := h2
    simpa [packD] using h3
  | d :: e :: ds, vs, h2 =>
    have h2' := h2
    simp only [Repl] at h2
    obtain ⟨v, rest, rfl, h3, u, rest', rfl, h4, h5⟩ := h2
    simp only [packD, Rep]
    refine ⟨v :: u :: rest', by simp, h2'⟩
theorem qoJ {p : Addr → Prop} {a : Act} {w : World} {ds : List D} (hi : Inv K p σ w) (hr : RelEnv p w env a) (hd : a.defers = []) (hf : P.funcs[f]? = some fn) (hds : ResDs P env σ fn.results.toList ds) (hR : R (packD ds) σ) (b : Frame) {kd : CallKind} (hb : b.fn = f) (hk : b.kind = kd) (todo : List Item) :
    ∃ e, Left K R e w ∧ LeavesAs kd P ({ b.atR a todo with mode := .returning } : Frame) w e ∧ e ≠ .outgrown := by
  obtain ⟨v, h1, h2⟩ := qkG (fn := fn) hi hr hds
  exact ⟨.returned v, .inl ⟨v, _, σ, p, rfl, hR, h2, hi⟩, ⟨rfl, hd, hk, fn, by rw [← hb] at hf; exact hf, h1⟩, fun h => by cases h⟩
theorem q9 (_ : P.funcs[f]? = some fn) (ds : List D) (hds : ResDs P env σ fn.results.toList ds) (hR : R (packD ds) σ) : Goes P f fn K R (.code .ret :: k) env σ := fun p a w hi hr hn hd b cs hb hk hro hf => by
  obtain ⟨e, h1, h2, h3⟩ := qoJ (R := R) hi hr hd hf hds hR b hb hk (.code .ret :: k)
  refine ⟨e, w, { b.atR a (.code .ret :: k) with mode := .returning }, h1, ?_, hb, h2⟩
  cases e with
  | returned v => exact Steps.one (stepR_ret hro)
  | panicked c => exact Steps.one (stepR_ret hro)
  | outgrown => exact absurd rfl h3
theorem qfd (_ : P.funcs[f]? = some fn) (ds : List D) (hds : ResDs P env σ fn.results.toList ds) (hR : R (packD ds) σ) : Goes P f fn K R [] env σ := fun p a w hi hr hn hd b cs hb hk hro hf => by
  obtain ⟨e, h1, h2, h3⟩ := qoJ (R := R) hi hr hd hf hds hR b hb hk []
  refine ⟨e, w, { b.atR a [] with mode := .returning }, h1, ?_, hb, h2⟩
  cases e with
  | returned v => exact Steps.one (stepR_end hro)
  | panicked c => exact Steps.one (stepR_end hro)
  | outgrown => exact absurd rfl h3
def argEnv : Nat → List D → Env
  | _, [] => []
  | i, d :: ds => (i, d) :: argEnv (i + 1) ds
theorem qkW : ∀ (ds : List D) (i t : Nat) (d : D), lk (argEnv i ds) t = some d → i ≤ t ∧ ds[t - i]? = some d
  | [], _, _, _, h => by cases h
  | e :: ds, i, t, d, h => by
    rw [argEnv, qfA] at h
    by_cases hi : i = t
    · subst hi
      rw [if_pos rfl] at h
      exact ⟨Nat.le_refl _, by simpa using h⟩
    · rw [if_neg hi] at h
      obtain ⟨h1, h2⟩ := qkW ds (i + 1) t d h
      refine ⟨by omega, ?_⟩
      have : t - i = (t - (i + 1)) + 1 := by omega
      rw [this]
      simpa using h2
theorem qs6 {c : Code} {ds : List D} (hf : P.funcs[f]? = some fn) (hb : fn.body = some c) (h : ∀ K, (K.F0 = fun b => b ∈ blks σ) → Goes P f fn K R [.code c] (argEnv 0 ds) σ) : Spec P f ds σ R := by
  intro w p vs hi hv cs
  let b : Frame := { (default : Frame) with fn := f, kind := .normal, roundOf := none }
  have henter : Frame.enter P f vs.toArray .normal = b.atR { tmps := vs.toArray ++ Array.replicate (fn.ntmps - vs.toArray.size) undef, defers := [] } [.code c] := by
    simp [Frame.enter, Frame.atR, hf, hb, b]
  rw [henter]
  suffices hS : Fin none .normal P f (ctx w p σ) R (b.atR { tmps := vs.toArray ++ Array.replicate (fn.ntmps - vs.toArray.size) undef, defers := [] } [.code c]) cs w by
    obtain ⟨e, w', fr, h1, h2, h3, h4⟩ := hS
    exact ⟨e, w', fr, h1, h2, h3, h4.normal⟩
  refine h (ctx w p σ) rfl p _ w hi ?_ ?_ rfl b cs rfl rfl rfl hf
  · intro t d ht
    obtain ⟨_, h2⟩ := qkW ds 0 t d ht
    obtain ⟨v, h3, h4⟩ := hv.at_ h2
    have : (vs.toArray ++ Array.replicate (fn.ntmps - vs.toArray.size) Go.undef).getD t Go.undef = v := by
      have hlt := (List.getElem?_eq_some_iff.1 h3).1
      have h5 : vs[t]? = some v := by simpa using h3
      rw [Array.getD_eq_getD_getElem?, Array.getElem?_append_left (by simpa using hlt)]
      simp [h5]
    rw [this]
    exact h4
  · simp; omega
theorem qag {c : Code} {ds : List D} (env : Env) (hf : P.funcs[f]? = some fn) (hb : fn.body = some c) (he : argEnv 0 ds = env) (h : ∀ K, (K.F0 = fun b => b ∈ blks σ) → Goes P f fn K R [.code c] env σ) : Spec P f ds σ R := qs6 hf hb fun K hK => he ▸ h K hK
end
def wantD (ops : Array Oper) (env : Env) (o : Oper) : Option Bool :=
  match o.guard with
  | none => some true
  | some (j, want) =>
    match (ops[j]?).bind (·.dst) with
    | none => none
    | some t =>
      match lk env t with
      | some (.bool b) => some (b == want)
      | some .undef => some false
      | _ => none
theorem qhf {p : Addr → Prop} {w : World} {ops : Array Oper} {env : Env} {a : Act} {o : Oper} {b : Bool} (hr : ∀ t ∈ o.looksAt ops, ∀ d, lk env t = some d → Rep p w d (a.tmps.getD t Go.undef)) (h : wantD ops env o = some b) : Region.wanted o (yielded ops a.tmps) = b := by
  unfold wantD at h
  unfold Region.wanted
  cases hg : o.guard with
  | none => simp only [hg] at h ⊢; injection h
  | some jw =>
    obtain ⟨j, want⟩ := jw
    simp only [hg] at h ⊢
    unfold yielded
    cases hd : (ops[j]?).bind (·.dst) with
    | none => simp [hd] at h
    | some t =>
      simp only [hd] at h ⊢
      have hm : t ∈ o.looksAt ops := by simp [Oper.looksAt, hg, hd]
      cases hl : lk env t with
      | none => simp [hl] at h
      | some d =>
        have hv := hr t hm d hl
        simp only [hl] at h
        cases d <;> simp only [Rep] at hv <;> simp at h
        · rw [Array.getD_eq_getD_getElem?] at hv
          cases hq : a.tmps[t]? with
          | none => rw [hq] at hv; cases hv
          | some u =>
            rw [hq] at hv
            simp only [Option.getD_some] at hv
            subst hv h
            rename_i bb
            simp only [Option.bind_some, hq]
            cases want <;> cases bb <;> rfl
        · rw [Array.getD_eq_getD_getElem?] at hv
          subst h
          cases hq : a.tmps[t]? with
          | none => simp [hq]
          | some u =>
            rw [hq] at hv
            simp only [Option.getD_some] at hv
            subst hv
            simp [hq, Go.undef]
def StepS (P : Program) (o : Oper) (ρ : Operand → Option D) (σ : St) (R : D → St → Prop) : Prop :=
  ∀ (K : Ctx) (p : Addr → Prop) (a : Act) (w : World), Inv K p σ w → (∀ x ∈ o.op.operands, ∀ d, ρ x = some d → Rep p w d (a.eval x)) →
    o.wp P a w (fun a' w' => ∃ v d σ' p', a' = a.put o.dst v ∧ R d σ' ∧ Rep p' w' d v ∧ Inv K p' σ' w' ∧ Grow p w p' w') (fun _ _ _ => False)
def StepD (P : Program) (o : Oper) (ρ : Operand → Option D) (d : D) : Prop := ∀ σ, StepS P o ρ σ fun d' σ' => d' = d ∧ σ' = σ
def StepY (P : Program) (o : Oper) (ρ : Operand → Option D) (σ : St) (R : D → St → Prop) : Prop :=
  ∀ (rd : Option Nat) (K : Ctx) (p : Addr → Prop) (a : Act) (w : World), Inv K p σ w → (∀ x ∈ o.op.operands, ∀ d, ρ x = some d → Rep p w d (a.eval x)) →
    o.wpIn (fw rd) 0 P a w (fun a' w' => ∃ v d σ' p', a' = a.put o.dst v ∧ R d σ' ∧ Rep p' w' d v ∧ Inv K p' σ' w' ∧ Grow p w p' w') (fun _ _ _ => False)
theorem qhJ (a : Act) (dst : Option Tmp) (v : Value) : (a.put dst v).defers = a.defers := by cases dst <;> rfl
theorem qp8 {rd : Option Nat} {P : Program} {m m' : Machine} (h : Steps P m m') : StepsIn (Machine.fenced P (fw rd)) P m m' := by
  cases rd <;> exact stepsIn_wide.2 h
theorem qrQ {P : Program} {o : Oper} {a : Act} {rd : Option Nat} {N : Act → World → Prop} {Q : Exit → Act → World → Prop} {r : Result Next} (h : o.upon P a N Q r) : o.uponIn (fw rd) 0 P a N Q r := by
  have hd : (fw rd).depth.isSome = true → False := by cases rd <;> (intro h; cases h)
  unfold Oper.upon at h
  unfold Oper.uponIn
  split at h
  · exact h
  · exact h
  · exact h
  · exact ⟨fun h => (hd h).elim, qsA h⟩
  · refine ⟨fun h => (hd h).elim, fun c cs _ => ?_⟩
    obtain ⟨v, w', h1, h2⟩ := h c cs
    exact ⟨v, w', h1, qp8 h2⟩
  · exact h
  · exact h.elim
theorem qkm {P : Program} {o : Oper} {a : Act} {w : World} {N : Act → World → Prop} {Q : Exit → Act → World → Prop} (h : o.wp P a w N Q) : o.wpIn (fw none) 0 P a w N Q :=
  ⟨fun f _ => qnI none f, qrQ h⟩
theorem StepS.y {P : Program} {o : Oper} {ρ : Operand → Option D} {σ : St} {R : D → St → Prop} (h : StepS P o ρ σ R) : StepY P o ρ σ R := fun rd K p a w hi hv => by
  have h0 := h K p a w hi hv
  cases rd with
  | none => exact qkm h0
  | some l =>
    refine ⟨fun f _ => qnI _ f, ?_⟩
    by_cases hd : ∃ c, o.op = .defer c
    · obtain ⟨c, hc⟩ := hd
      exfalso
      unfold Oper.wp at h0
      simp only [execOp, hc, Sem.run_bind] at h0
      cases hr : (resolve a.eval c o.type).run P w with
      | ok d w' =>
        rw [hr] at h0
        obtain ⟨v, d', σ', p', e, _⟩ := h0
        have := congrArg Act.defers e
        rw [qhJ, qhJ] at this
        have := congrArg List.length this
        simp at this
      | halt x w' =>
        rw [hr] at h0
        cases x <;> exact h0
    · rw [show (fw (some l)).round = some l from rfl, Oper.semAt_eq _ _ _ fun c hc => hd ⟨c, hc⟩]
      exact qrQ h0
def DieT (P : Program) (o : Oper) (ρ : Operand → Option D) (σ τ : St) (d : D) : Prop :=
  ∀ (K : Ctx) (p : Addr → Prop) (a : Act) (w : World), Inv K p σ w → (∀ x ∈ o.op.operands, ∀ d, ρ x = some d → Rep p w d (a.eval x)) →
    o.wp P a w (fun _ _ => False) (fun e a' w' => ∃ v p', e = .panic [{ v, recovered := false }] ∧ a' = a ∧ Rep p' w' d v ∧ Inv K p' τ w' ∧ Grow p w p' w')
abbrev DieS (P : Program) (o : Oper) (ρ : Operand → Option D) (σ : St) (d : D) : Prop := DieT P o ρ σ [] d
abbrev NX : Env → D → St → Prop := fun _ _ _ => False
inductive Cls where
  | d | r | w | x
  deriving DecidableEq
def Cls.isW : Cls → Bool
  | .w | .x => true
  | _ => false
section
variable {P : Program} {ops : Array Oper}
def Run (P : Program) (ops : Array Oper) (X : Env → D → St → Prop) (Q : Env → St → Prop) : List (Nat × Cls) → Env → St → Prop
  | [], env, σ => Q env σ
  | (i, c) :: l, env, σ => ∃ o, ops[i]? = some o ∧ ((wantD ops env o = some false ∧ Run P ops X Q l (env.put o.dst .undef) σ) ∨ (wantD ops env o = some true ∧ match c with
    | .d => ∃ d, StepD P o (ev env) d ∧ Run P ops X Q l (env.put o.dst d) σ
    | .r => ∃ d, StepS P o (ev env) σ (fun d' σ' => d' = d ∧ σ' = σ) ∧ Run P ops X Q l (env.put o.dst d) σ
    | .w => ∃ R, StepY P o (ev env) σ R ∧ ∀ d σ', R d σ' → Run P ops X Q l (env.put o.dst d) σ'
    | .x => ∃ R, StepY P o (ev env) σ R ∧ ∀ d σ', R d σ' → Run P ops X Q l (env.put o.dst d) σ') ∨ (wantD ops env o = some true ∧ ∃ e d τ, (∀ t, lk e t = lk env t) ∧ X e d τ ∧ DieT P o (ev env) σ τ d ∧ c.isW = true))
theorem qim {X : Env → D → St → Prop} {Q Q' : Env → St → Prop} (hq : ∀ e s, Q e s → Q' e s) : ∀ (l : List (Nat × Cls)) (env : Env) (σ : St), Run P ops X Q l env σ → Run P ops X Q' l env σ
  | [], _, _, h => hq _ _ h
  | (i, c) :: l, env, σ, h => by
    obtain ⟨o, ho, h⟩ := h
    refine ⟨o, ho, ?_⟩
    rcases h with ⟨hw, h⟩ | ⟨hw, h⟩ | h
    · exact .inl ⟨hw, qim hq l _ _ h⟩
    rotate_left
    · exact .inr (.inr h)
    · refine .inr (.inl ⟨hw, ?_⟩)
      cases c with
      | d => obtain ⟨d, h1, h2⟩ := h; exact ⟨d, h1, qim hq l _ _ h2⟩
      | r => obtain ⟨d, h1, h2⟩ := h; exact ⟨d, h1, qim hq l _ _ h2⟩
      | w => obtain ⟨R, h1, h2⟩ := h; exact ⟨R, h1, fun d σ' hR => qim hq l _ _ (h2 d σ' hR)⟩
      | x => obtain ⟨R, h1, h2⟩ := h; exact ⟨R, h1, fun d σ' hR => qim hq l _ _ (h2 d σ' hR)⟩
def okOps (ops : Array Oper) (n : Nat) : Bool := ops.toList.all fun o => (match o.dst with | some t => decide (t < n) | none => true) && o.op.operands.toList.all okOpnd
theorem qln {n i : Nat} {o : Oper} (h : okOps ops n = true) (ho : ops[i]? = some o) (t : Nat) (ht : o.dst = some t) : t < n := by
  have hm : o ∈ ops.toList := List.mem_of_getElem? (by simpa using ho)
  have := List.all_eq_true.1 h o hm
  simp only [Bool.and_eq_true, ht, decide_eq_true_eq] at this
  exact this.1
theorem qqi {n i : Nat} {o : Oper} (h : okOps ops n = true) (ho : ops[i]? = some o) (x : Operand) (hx : x ∈ o.op.operands) : okOpnd x = true := by
  have hm : o ∈ ops.toList := List.mem_of_getElem? (by simpa using ho)
  have := List.all_eq_true.1 h o hm
  simp only [Bool.and_eq_true] at this
  exact List.all_eq_true.1 this.2 x (by simpa using hx)
theorem ql9 {p : Addr → Prop} {w : World} {env : Env} {a : Act} {o : Oper} {n i : Nat} (h : okOps ops n = true) (ho : ops[i]? = some o) (hr : ∀ t ∈ o.looksAt ops, ∀ d, lk env t = some d → Rep p w d (a.tmps.getD t Go.undef)) : ∀ x ∈ o.op.operands, ∀ d, ev env x = some d → Rep p w d (a.eval x) := fun x hx d hd => by
  have hok := qqi h ho x hx
  cases x with
  | tmp t =>
    refine hr t ?_ d hd
    exact List.mem_append_left _ (List.mem_filterMap.2 ⟨.tmp t, by simpa using hx, rfl⟩)
  | const v => exact qm1 hd hok
  | func f =>
    injection hd with hd
    subst hd
    simp only [Rep]
    exact ⟨[], [], rfl, Repl.nil _ _, Repl.nil _ _⟩
  | global g => cases hd
def Good (K : Ctx) (n : Nat) (m : Md) (env : Env) (σ : St) (a : Act) (w : World) : Prop := ∃ p, Inv K p σ w ∧ RelEnv p w env a ∧ n ≤ a.tmps.size ∧ a.defers = m.marks
theorem qlT (a : Act) (dst : Option Tmp) (v : Value) : (a.put dst v).tmps.size = a.tmps.size := by cases dst <;> simp [Act.put]
theorem qqn {F : Fence} {n : Nat} {P : Program} {o : Oper} {a : Act} {r : Result Next} {N N' : Act → World → Prop} {Q Q' : Exit → Act → World → Prop} (hn : ∀ a' w', N a' w' → N' a' w') (hq : ∀ e a' w', Q e a' w' → Q' e a' w') (h : o.uponIn F n P a N Q r) : o.uponIn F n P a N' Q' r := by
  unfold Oper.uponIn at h ⊢
  split at h
  · exact hn _ _ h
  · exact hn _ _ h
  · exact hn _ _ h
  · refine ⟨h.1, CallsIn.mono h.2 fun e w' hh => ?_⟩
    cases e with
    | returned v => exact hn _ _ hh
    | panicked c => exact hq _ _ _ hh
    | outgrown => obtain ⟨a₀, w₀, hh⟩ := hh; exact ⟨a₀, w₀, hq _ _ _ hh⟩
  · exact ⟨h.1, RowsIn.mono h.2 fun v w' hh => hn _ _ hh⟩
  · refine ⟨h.1, RoundIn.mono h.2 fun e w' hh => ?_⟩
    cases e with
    | returned v => exact hn _ _ hh
    | panicked c => exact hq _ _ _ hh
    | outgrown => obtain ⟨a₀, w₀, hh⟩ := hh; exact ⟨a₀, w₀, hq _ _ _ hh⟩
  · exact hq _ _ _ h
  · exact h.elim
theorem qlg {F : Fence} {n : Nat} {P : Program} {o : Oper} {a : Act} {w : World} {N N' : Act → World → Prop} {Q Q' : Exit → Act → World → Prop} (hn : ∀ a' w', N a' w' → N' a' w') (hq : ∀ e a' w', Q e a' w' → Q' e a' w') (h : o.wpIn F n P a w N Q) : o.wpIn F n P a w N' Q' :=
  ⟨h.1, qqn hn hq h.2⟩
theorem qmf {n : Nat} {K : Ctx} {m : Md} {X : Env → D → St → Prop} {Q : Env → St → Prop} (hX : ∀ e d τ, X e d τ → m.rd = none) (hok : okOps ops n = true) : ∀ (l : List (Nat × Cls)) (env : Env) (σ : St) (a : Act) (w : World), Run P ops X Q l env σ → Good K n m env σ a w →
    wpOpsIn (fw m.rd) 0 P ops (EndsR P K n m X Q) (l.map (·.1)) a w
  | [], env, σ, a, w, h, ⟨p, h1, h2, h3, h4⟩ => .inl ⟨rfl, env, σ, p, h, h1, h2, h3, h4⟩
  | (i, c) :: l, env, σ, a, w, h, ⟨p, h1, h2, h3, h4⟩ => by
    obtain ⟨o, ho, h⟩ := h
    simp only [List.map_cons, wpOpsIn, ho]
    rcases h with ⟨hw, h⟩ | ⟨hw, h⟩ | ⟨hw, e₀, d, τ, he₀, hx, h, _⟩
    rotate_right
    · have := qhf (a := a) (p := p) (w := w) (fun t _ d ht => h2 t d ht) hw
      rw [this]
      simp only [if_true]
      have hst := h K p a w h1 (ql9 hok ho fun t _ d ht => h2 t d ht)
      rw [hX e₀ d τ hx]
      exact qlg (fun a' w' hh => hh.elim) (fun e a' w' hh => by
        obtain ⟨v, p', rfl, rfl, hv, hi, hg⟩ := hh
        exact .inr ⟨v, d, τ, p', e₀, rfl, hx, hv, hi, fun t d' ht => (h2.grow hg) t d' (by rw [← he₀ t]; exact ht), h4⟩) (qkm hst)
    · have := qhf (a := a) (p := p) (w := w) (fun t _ d ht => h2 t d ht) hw
      rw [this]
      simp only [Bool.false_eq_true, if_false]
      exact ⟨fun f _ => qnI _ f, qmf hX hok l _ σ _ w h ⟨p, h1, h2.put (by simp only [Rep]) fun t ht => Nat.lt_of_lt_of_le (qln hok ho t ht) h3, by rw [qlT]; exact h3, by rw [qhJ]; exact h4⟩⟩
    · have := qhf (a := a) (p := p) (w := w) (fun t _ d ht => h2 t d ht) hw
      rw [this]
      simp only [if_true]
      have key : ∃ R, StepY P o (ev env) σ R ∧ ∀ d σ', R d σ' → Run P ops X Q l (env.put o.dst d) σ' := by
        cases c with
        | d => obtain ⟨d, hs, hk⟩ := h; exact ⟨_, (hs σ).y, fun d' σ' ⟨e1, e2⟩ => e1 ▸ e2 ▸ hk⟩
        | r => obtain ⟨d, hs, hk⟩ := h; exact ⟨_, hs.y, fun d' σ' ⟨e1, e2⟩ => e1 ▸ e2 ▸ hk⟩
        | w => exact h
        | x => exact h
      obtain ⟨R, hs, hk⟩ := key
      have hst := hs m.rd K p a w h1 (ql9 hok ho fun t _ d ht => h2 t d ht)
      refine qlg (fun a' w' hh => ?_) (fun _ _ _ hh => hh.elim) hst
      obtain ⟨v, d, σ', p', rfl, hR, hv, hi, hg⟩ := hh
      exact qmf hX hok l _ σ' _ w' (hk d σ' hR) ⟨p', hi, (h2.grow hg).put hv fun t ht => Nat.lt_of_lt_of_le (qln hok ho t ht) h3, by rw [qlT]; exact h3, by rw [qhJ]; exact h4⟩
theorem qt6 {f : FuncId} {fn : Func} {K : Ctx} {R : D → St → Prop} {k : List Item} {env : Env} {σ : St} {id : Nat} {l : List Oper} (hok : okOps l.toArray fn.ntmps = true) (ord : List (Nat × Cls)) (ho : ord.map (·.1) = List.range l.length)
    (h : Run P l.toArray (fun _ => K.X) (Goes P f fn K R k) ord env σ) : Goes P f fn K R (.code (.region id l.toArray false) :: k) env σ :=
  qli (Q := Goes P f fn K R k) (X := fun _ => K.X) (fun p a w hi hr hn hd => by
    refine wpIn_region ?_
    have := qmf (K := K) (m := Md.top) (fun _ _ _ _ => rfl) hok ord env σ a w h ⟨p, hi, hr, hn, hd⟩
    rw [ho] at this
    simpa using this) (fun _ _ _ h => ⟨h, rfl⟩) (fun _ _ h => h)
def ix : Nat → List Cls → List (Nat × Cls)
  | _, [] => []
  | n, c :: cs => (n, c) :: ix (n + 1) cs
theorem gr {f : FuncId} {fn : Func} {K : Ctx} {R : D → St → Prop} {k : List Item} {env : Env} {σ : St} {id : Nat} {l : List Oper} (cs : List Cls) (h : Run P l.toArray (fun _ => K.X) (Goes P f fn K R k) (ix 0 cs) env σ) (hok : okOps l.toArray fn.ntmps = true := by kernel_rfl) (ho : (ix 0 cs).map (·.1) = List.range l.length := by rfl) : Goes P f fn K R (.code (.region id l.toArray false) :: k) env σ := qt6 hok (ix 0 cs) ho h
theorem qkH {m : Md} {f : FuncId} {fn : Func} {K : Ctx} {R : D → St → Prop} {k : List Item} {env : Env} {σ : St} {id : Nat} {l : List Oper} (hok : okOps l.toArray fn.ntmps = true) (ord : List (Nat × Cls)) (ho : ord.map (·.1) = List.range l.length)
    (h : Run P l.toArray NX (GoesG m P f fn K R k) ord env σ) : GoesG m P f fn K R (.code (.region id l.toArray false) :: k) env σ :=
  qli (Q := GoesG m P f fn K R k) (X := NX) (fun p a w hi hr hn hd => by
    refine wpIn_region ?_
    have := qmf (K := K) (m := m) (X := NX) (fun _ _ _ h => h.elim) hok ord env σ a w h ⟨p, hi, hr, hn, hd⟩
    rw [ho] at this
    simpa using this) (fun _ _ _ h => h.elim) (fun _ _ h => h)
end
structure PE where
  i : Nat
  c : Cls
  o : Oper
  E : Env
  V : D
def envT (T : Nat → Bool) (env : Env) (l : List PE) : Env := l.foldl (fun E e => if T e.i then E.put e.o.dst e.V else E) env
abbrev envA (env : Env) (l : List PE) : Env := envT (fun _ => true) env l
theorem qiu (env : Env) (dst : Option Tmp) (d : D) (s : Nat) : lk (env.put dst d) s = if dst = some s then some d else lk env s := by
  cases dst with
  | none => simp [Env.put]
  | some t => simp only [Env.put, qfA, Option.some.injEq]
theorem qlV (T : Nat → Bool) (env : Env) (l m : List PE) : envT T env (l ++ m) = envT T (envT T env l) m := by simp [envT]
theorem qlq {T : Nat → Bool} {t : Nat} : ∀ {l : List PE} {E : Env}, (∀ e ∈ l, T e.i = true → e.o.dst ≠ some t) → lk (envT T E l) t = lk E t
  | [], _, _ => rfl
  | e :: l, E, h => by
    have h1 := qlq (T := T) (t := t) (l := l) (E := if T e.i then E.put e.o.dst e.V else E) fun e' he' => h e' (List.mem_cons_of_mem _ he')
    simp only [envT, List.foldl_cons] at h1 ⊢
    rw [h1]
    split
    · rename_i hT
      rw [qiu, if_neg (h e (List.mem_cons_self ..) hT)]
    · rfl
theorem qne {T : Nat → Bool} {t : Nat} : ∀ {l : List PE} {E E' : Env}, (∀ e ∈ l, e.o.dst = some t → T e.i = true) → lk E t = lk E' t → lk (envT T E l) t = lk (envA E' l) t
  | [], _, _, _, h0 => h0
  | e :: l, E, E', h, h0 => by
    simp only [envT, List.foldl_cons]
    refine qne (l := l) (fun e' he' => h e' (List.mem_cons_of_mem _ he')) ?_
    simp only [if_true]
    by_cases hd : e.o.dst = some t
    · rw [h e (List.mem_cons_self ..) hd]
      simp [qiu, hd]
    · rw [qiu, if_neg hd]
      split
      · rw [qiu, if_neg hd]; exact h0
      · exact h0
theorem qjn {T T' : Nat → Bool} : ∀ {l : List PE} {E : Env}, (∀ e ∈ l, T e.i = T' e.i) → envT T E l = envT T' E l
  | [], _, _ => rfl
  | e :: l, E, h => by
    simp only [envT, List.foldl_cons]
    rw [h e (List.mem_cons_self ..)]
    exact qjn (l := l) fun e' he' => h e' (List.mem_cons_of_mem _ he')
/-! ### what is checked by looking -/
section
variable {P : Program} {ops : Array Oper}
def okMask (ops : Array Oper) (r M : Array Nat) : Bool := (List.range ops.size).all fun k => (List.range ops.size).all fun j => !(M.getD k 0).testBit j || (match ops[k]? with
  | some o => o.after.any fun e => Region.binds .any e && decide (r.getD e.on 0 < r.getD k 0 ∧ e.on < ops.size) && (e.on == j || (M.getD e.on 0).testBit j)
  | none => false)
def okLow (ops : Array Oper) (r : Array Nat) : Bool := (List.range ops.size).all fun k => match ops[k]? with
  | some o => o.after.all fun e => !Region.binds .any e || decide (r.getD e.on 0 < r.getD k 0 ∧ e.on < ops.size)
  | none => true
def ranks (n : Nat) (ord : List Nat) : Array Nat := (ord.foldl (fun (x : Array Nat × Nat) i => (x.1.setIfInBounds i x.2, x.2 + 1)) (Array.replicate n 0, 0)).1
def masks (ops : Array Oper) (ord : List Nat) : Array Nat := ord.foldl (fun M i => match ops[i]? with
  | some o => M.setIfInBounds i (o.after.foldl (fun m e => if Region.binds .any e then m ||| (1 <<< e.on) ||| M.getD e.on 0 else m) 0)
  | none => M) (Array.replicate ops.size 0)
def apartAt (ops : Array Oper) (j k : Nat) : Bool := match ops[j]?, ops[k]? with
  | some x, some y => x.apart ops y
  | _, _ => false
def pairOk (ops : Array Oper) (M : Array Nat) (x y : Nat × Cls) : Bool := (M.getD y.1 0).testBit x.1 || (!x.2.isW && !(x.2 == .r && y.2.isW) && apartAt ops x.1 y.1)
def firstW : List (Nat × Cls) → Option Nat
  | [] => none
  | y :: l => if y.2.isW then some y.1 else firstW l
theorem qm6 : ∀ {l : List (Nat × Cls)} {j : Nat}, firstW l = some j → ∃ c, (j, c) ∈ l
  | [], _, h => by cases h
  | y :: l, j, h => by
    unfold firstW at h
    split at h
    · injection h with h
      exact ⟨y.2, by rw [← h]; exact List.mem_cons_self ..⟩
    · obtain ⟨c, hc⟩ := qm6 h
      exact ⟨c, List.mem_cons_of_mem _ hc⟩
def exempt (M : Array Nat) (l : List (Nat × Cls)) : List (Nat × Cls) := match firstW l with
  | some j => l.filter fun y => !(y.1 == j || (M.getD y.1 0).testBit j)
  | none => l
def okPairs (ops : Array Oper) (M : Array Nat) : List (Nat × Cls) → Bool
  | [] => true
  | x :: l => (match x.2 with | .x => exempt M l | _ => l).all (fun y => pairOk ops M x y) && okPairs ops M l
def okIdx (n : Nat) (ord : List (Nat × Cls)) : Bool := (List.range n).all (fun i => ord.any fun x => x.1 == i) && ord.all (fun x => decide (x.1 < n)) && decide (ord.map (·.1)).Nodup
def okAny (ops : Array Oper) (ord : List (Nat × Cls)) : Bool := okMask ops (ranks ops.size (ord.map (·.1))) (masks ops (ord.map (·.1))) && okLow ops (ranks ops.size (ord.map (·.1))) && okPairs ops (masks ops (ord.map (·.1))) ord && okIdx ops.size ord
def Tof (listed : Array Bool) (i : Nat) : Bool := listed.getD i false
def Down (ops : Array Oper) (listed : Array Bool) : Prop := ∀ k o, ops[k]? = some o → Tof listed k = true → ∀ e ∈ o.after, Region.binds .any e = true → Tof listed e.on = true
theorem qos {r M : Array Nat} {listed : Array Bool} (hM : okMask ops r M = true) (hd : Down ops listed) : ∀ (n : Nat) (k : Nat) (o : Oper), r.getD k 0 = n → ops[k]? = some o → (∀ e ∈ o.after, Region.binds .any e = true → Tof listed e.on = true) → ∀ j, j < ops.size → (M.getD k 0).testBit j = true → Tof listed j = true := by
  intro n
  induction n using Nat.strongRecOn with
  | _ n ih =>
    intro k o hn ho hall j hj hb
    have hk : k < ops.size := (Array.getElem?_eq_some_iff.1 ho).1
    have h1 := List.all_eq_true.1 (List.all_eq_true.1 hM k (by simpa using hk)) j (by simpa using hj)
    rw [hb] at h1
    simp only [Bool.not_true, Bool.false_or, ho] at h1
    obtain ⟨e, he, h2⟩ := Array.any_eq_true'.1 h1
    simp only [Bool.and_eq_true, decide_eq_true_eq, Bool.or_eq_true, beq_iff_eq] at h2
    obtain ⟨⟨h3, h4, h4'⟩, h5⟩ := h2
    have hl := hall e he h3
    rcases h5 with rfl | h5
    · exact hl
    · obtain ⟨o', ho'⟩ : ∃ o', ops[e.on]? = some o' := ⟨ops[e.on]'h4', Array.getElem?_eq_getElem h4'⟩
      exact ih (r.getD e.on 0) (by omega) e.on o' rfl ho' (hd e.on o' ho' hl) j hj h5
theorem qgI {M : Array Nat} : ∀ {l m : List (Nat × Cls)} {x y : Nat × Cls}, okPairs ops M (l ++ x :: m) = true → x.2 ≠ .x → y ∈ m → pairOk ops M x y = true
  | [], m, x, y, h, hx, hy => by
    simp only [List.nil_append, okPairs, Bool.and_eq_true] at h
    obtain ⟨i, c⟩ := x
    cases c with
    | x => exact absurd rfl hx
    | d => exact List.all_eq_true.1 h.1 y hy
    | r => exact List.all_eq_true.1 h.1 y hy
    | w => exact List.all_eq_true.1 h.1 y hy
  | z :: l, m, x, y, h, hx, hy => by
    simp only [List.cons_append, okPairs, Bool.and_eq_true] at h
    exact qgI h.2 hx hy
theorem qmK {M : Array Nat} : ∀ {l m : List (Nat × Cls)} {i : Nat} {y : Nat × Cls}, okPairs ops M (l ++ (i, .x) :: m) = true → y ∈ m → (∀ j, firstW m = some j → y.1 ≠ j ∧ (M.getD y.1 0).testBit j = false) → pairOk ops M (i, .x) y = true
  | [], m, i, y, h, hy, hj => by
    simp only [List.nil_append, okPairs, Bool.and_eq_true] at h
    refine List.all_eq_true.1 h.1 y ?_
    unfold exempt
    split
    · rename_i j hf
      obtain ⟨h1, h2⟩ := hj j hf
      exact List.mem_filter.2 ⟨hy, by rw [h2]; simpa using h1⟩
    · exact hy
  | z' :: l, m, i, y, h, hy, hj => by
    simp only [List.cons_append, okPairs, Bool.and_eq_true] at h
    exact qmK h.2 hy hj
end
def PendOk (P : Program) (ops : Array Oper) (σ : St) (e : PE) : Prop :=
  (wantD ops e.E e.o = some false ∧ e.V = .undef) ∨ (wantD ops e.E e.o = some true ∧ ((e.c = .d ∧ StepD P e.o (ev e.E) e.V) ∨ (e.c = .r ∧ StepS P e.o (ev e.E) σ fun d' σ' => d' = e.V ∧ σ' = σ)))
section
variable {P : Program} {ops : Array Oper} {Q : Env → St → Prop}
theorem absorb {X : Env → D → St → Prop} (env0 : Env) (σ : St) : ∀ (l : List (Nat × Cls)) (E : Env), Run P ops X Q l E σ → ∃ (new : List PE) (l' : List (Nat × Cls)), l = new.map (fun e => (e.i, e.c)) ++ l' ∧ Run P ops X Q l' (envA E new) σ ∧
    (∀ d1 e d2, new = d1 ++ e :: d2 → e.E = envA E d1 ∧ ops[e.i]? = some e.o ∧ PendOk P ops σ e ∧ e.c.isW = false) ∧ (l' = [] ∨ ∃ i c l'', l' = (i, c) :: l'' ∧ c.isW = true)
  | [], E, h => ⟨[], [], rfl, h, fun d1 e d2 hh => by simp at hh, .inl rfl⟩
  | (i, c) :: l, E, h => by
    have h0 := h
    obtain ⟨o, ho, h⟩ := h
    cases hc : c.isW with
    | true => exact ⟨[], (i, c) :: l, rfl, h0, fun d1 e d2 hh => by simp at hh, .inr ⟨i, c, l, rfl, hc⟩⟩
    | false =>
      have key : ∃ V, PendOk P ops σ ⟨i, c, o, E, V⟩ ∧ Run P ops X Q l (E.put o.dst V) σ := by
        rcases h with ⟨hw, h⟩ | ⟨hw, h⟩ | ⟨_, _, _, _, _, _, _, hq⟩
        · exact ⟨.undef, .inl ⟨hw, rfl⟩, h⟩
        rotate_left
        · rw [hc] at hq
          cases hq
        · cases c with
          | d => obtain ⟨d, hs, hk⟩ := h; exact ⟨d, .inr ⟨hw, .inl ⟨rfl, hs⟩⟩, hk⟩
          | r => obtain ⟨d, hs, hk⟩ := h; exact ⟨d, .inr ⟨hw, .inr ⟨rfl, hs⟩⟩, hk⟩
          | w => cases hc
          | x => cases hc
      obtain ⟨V, hp, hk⟩ := key
      obtain ⟨new, l', h1, h2, h3, h4⟩ := absorb env0 σ l _ hk
      refine ⟨⟨i, c, o, E, V⟩ :: new, l', by simp [h1], by simpa [envT] using h2, fun d1 e d2 hh => ?_, h4⟩
      cases d1 with
      | nil =>
        simp only [List.nil_append, List.cons.injEq] at hh
        obtain ⟨rfl, _⟩ := hh
        exact ⟨rfl, ho, hp, hc⟩
      | cons x d1 =>
        simp only [List.cons_append, List.cons.injEq] at hh
        obtain ⟨rfl, hh⟩ := hh
        obtain ⟨h5, h6⟩ := h3 d1 e d2 hh
        exact ⟨by rw [h5]; simp [envT], h6⟩
end
section
variable {P : Program} {ops : Array Oper} {Q : Env → St → Prop}
theorem qlA {M : Array Nat} {x y : Nat × Cls} (h : pairOk ops M x y = true) (hb : (M.getD y.1 0).testBit x.1 = false) : x.2.isW = false ∧ ¬(x.2 = .r ∧ y.2.isW = true) ∧ apartAt ops x.1 y.1 = true := by
  unfold pairOk at h
  rw [hb] at h
  simp only [Bool.false_or, Bool.and_eq_true, Bool.not_eq_true', Bool.and_eq_false_imp, beq_iff_eq] at h
  refine ⟨h.1.1, fun hh => ?_, h.2⟩
  have := h.1.2 hh.1
  rw [hh.2] at this
  cases this
theorem qf3 {listed : Array Bool} {i : Nat} (hi : i < listed.size) (j : Nat) : Tof (listed.setIfInBounds i true) j = if j = i then true else Tof listed j := by
  unfold Tof
  by_cases h : j = i
  · subst h; simp [hi]
  · rw [if_neg h, Array.getD_eq_getD_getElem?, Array.getD_eq_getD_getElem?, Array.getElem?_setIfInBounds_ne (Ne.symm h)]
structure Mid (P : Program) (ops : Array Oper) (X : Env → D → St → Prop) (Q : Env → St → Prop) (K : Ctx) (n : Nat) (m : Md) (T : List (List (Nat × Cls))) (env0 : Env) (done : List PE) (l : List (Nat × Cls)) (listed : Array Bool) (σ : St) (a : Act) (w : World) : Prop where
  ok : ∀ t ∈ T, okAny ops (done.map (fun e => (e.i, e.c)) ++ (l ++ t)) = true
  nonem : ∃ t, t ∈ T
  chain : ∀ d1 e d2, done = d1 ++ e :: d2 → e.E = envA env0 d1 ∧ ops[e.i]? = some e.o ∧ (Tof listed e.i = false → PendOk P ops σ e ∧ e.c.isW = false)
  rest : Run P ops X (fun e s => ∀ t ∈ T, Run P ops X Q t e s) l (envA env0 done) σ
  head : l = [] ∨ ∃ i c l', l = (i, c) :: l' ∧ c.isW = true
  thead : ∀ t ∈ T, t = [] ∨ ∃ i c t', t = (i, c) :: t' ∧ c.isW = true
  tpair : ∀ t ∈ T, ∀ i t' j, t = (i, .x) :: t' → firstW t' = some j → ∃ t2 ∈ T, ∃ t2', t2 = (j, .x) :: t2'
  lx : ∀ x ∈ l, x.2 ≠ .x
  tx : ∀ t ∈ T, ∀ x ∈ t.tail, x.2 ≠ .x
  new : ∀ x ∈ l, Tof listed x.1 = false
  tnew : ∀ t ∈ T, ∀ x ∈ t, Tof listed x.1 = false
  down : Down ops listed
  size : listed.size = ops.size
  good : Good K n m (envT (Tof listed) env0 done) σ a w
def left (ord : List (Nat × Cls)) (listed : Array Bool) : Nat := (ord.filter fun x => !Tof listed x.1).length
theorem qr4 {ord : List (Nat × Cls)} {listed : Array Bool} {i : Nat} {c : Cls} (hn : (ord.map (·.1)).Nodup) (hm : (i, c) ∈ ord) (hi : i < listed.size) (hf : Tof listed i = false) : left ord (listed.setIfInBounds i true) + 1 = left ord listed := by
  unfold left
  induction ord with
  | nil => cases hm
  | cons x ord ih =>
    simp only [List.map_cons, List.nodup_cons] at hn
    by_cases hx : x.1 = i
    · have hno : ∀ y ∈ ord, y.1 ≠ i := fun y hy e => hn.1 (by rw [hx, ← e]; exact List.mem_map_of_mem hy)
      have e1 : ord.filter (fun x => !Tof (listed.setIfInBounds i true) x.1) = ord.filter (fun x => !Tof listed x.1) := List.filter_congr fun y hy => by rw [qf3 hi, if_neg (hno y hy)]
      rw [List.filter_cons, List.filter_cons, hx, qf3 hi, if_pos rfl, hf, e1]
      simp
    · have hm' : (i, c) ∈ ord := by
        rcases List.mem_cons.1 hm with h | h
        · exact absurd (by rw [← h]) hx
        · exact h
      have := ih hn.2 hm'
      rw [List.filter_cons, List.filter_cons, qf3 hi, if_neg hx]
      split
      · simp only [List.length_cons]; omega
      · exact this
def leftN (n : Nat) (listed : Array Bool) : Nat := left ((List.range n).map fun i => (i, Cls.d)) listed
theorem qtd {X : Env → D → St → Prop} {n : Nat} {md : Md} (hX : ∀ e d τ, X e d τ → X [] d τ ∧ md.rd = none) {K : Ctx} {env0 : Env} (hok : okOps ops n = true) :
    ∀ (fuel : Nat) (T : List (List (Nat × Cls))) (done : List PE) (l : List (Nat × Cls)) (listed : Array Bool) (σ : St) (a : Act) (w : World), Mid P ops X Q K n md T env0 done l listed σ a w → leftN ops.size listed = fuel →
      wpAnyIn (fw md.rd) 0 P .any ops (EndsR P K n md X Q) fuel listed a w := by
  intro fuel
  induction fuel with
  | zero =>
    intro T done l listed σ a w m h0
    obtain ⟨t0, ht0⟩ := m.nonem
    have hA := m.ok t0 ht0
    obtain ⟨ord, hord⟩ : ∃ ord, ord = done.map (fun e => (e.i, e.c)) ++ (l ++ t0) := ⟨_, rfl⟩
    rw [← hord] at hA
    have hall0 : done.map (fun e => (e.i, e.c)) ++ (l ++ t0) = ord := hord.symm
    simp only [okAny, Bool.and_eq_true] at hA
    obtain ⟨⟨⟨hM, hL⟩, hP⟩, hI⟩ := hA
    simp only [okIdx, Bool.and_eq_true, decide_eq_true_eq] at hI
    obtain ⟨⟨hI1, hI2⟩, hnd⟩ := hI
    have hin : ∀ i, i < ops.size → ∃ c, (i, c) ∈ ord := fun i hi => by
      obtain ⟨x, hx, he⟩ := List.any_eq_true.1 (List.all_eq_true.1 hI1 i (by simpa using hi))
      exact ⟨x.2, by rw [← (beq_iff_eq.1 he)]; exact hx⟩
    have hlt : ∀ x ∈ ord, x.1 < ops.size := fun x hx => by simpa using List.all_eq_true.1 hI2 x hx
    have hall : ∀ x ∈ ord, Tof listed x.1 = true := fun x hx => by
      cases hT : Tof listed x.1 with
      | true => rfl
      | false =>
        have : (x.1, Cls.d) ∈ ((List.range ops.size).map fun i => (i, Cls.d)).filter fun x => !Tof listed x.1 := List.mem_filter.2 ⟨List.mem_map.2 ⟨x.1, by simpa using hlt x hx, rfl⟩, by simp [hT]⟩
        have := List.length_pos_of_mem this
        unfold leftN left at h0
        omega
    refine ⟨?_, .inl ⟨rfl, ?_⟩⟩
    · refine List.eq_nil_iff_forall_not_mem.2 fun i hi => ?_
      obtain ⟨hun, o, ho, _⟩ := mem_ready.1 hi
      have hi' := (Array.getElem?_eq_some_iff.1 ho).1
      obtain ⟨c, hc⟩ := hin i hi'
      have := hall _ hc
      unfold Tof at this
      have hs : i < listed.size := by rw [m.size]; exact hi'
      simp [hs] at this hun
      rw [this] at hun
      cases hun
    · have hl : l = [] := by
        rcases m.head with h | ⟨i, c, l', h, _⟩
        · exact h
        · have hm : (i, c) ∈ l := by rw [h]; simp
          have h1 := m.new _ hm
          rw [hall _ (by rw [← hall0]; exact List.mem_append_right _ (List.mem_append_left _ hm))] at h1
          cases h1
      have ht : t0 = [] := by
        rcases m.thead t0 ht0 with h | ⟨i, c, l', h, _⟩
        · exact h
        · have hm : (i, c) ∈ t0 := by rw [h]; simp
          have h1 := m.tnew t0 ht0 _ hm
          rw [hall _ (by rw [← hall0]; exact List.mem_append_right _ (List.mem_append_right _ hm))] at h1
          cases h1
      obtain ⟨p, g1, g2, g3, g4⟩ := m.good
      have hr := m.rest
      rw [hl] at hr
      have hr := hr t0 ht0
      rw [ht] at hr
      have he : envT (Tof listed) env0 done = envA env0 done := qjn fun e he => hall (e.i, e.c) (by rw [← hall0]; exact List.mem_append_left _ (List.mem_map_of_mem he))
      exact ⟨_, σ, p, hr, g1, he ▸ g2, g3, g4⟩
  | succ fuel ih =>
    intro T done l listed σ a w m h0
    obtain ⟨t0, ht0⟩ := m.nonem
    have hA := m.ok t0 ht0
    obtain ⟨ord, hord⟩ : ∃ ord, ord = done.map (fun e => (e.i, e.c)) ++ (l ++ t0) := ⟨_, rfl⟩
    rw [← hord] at hA
    have hall0 : done.map (fun e => (e.i, e.c)) ++ (l ++ t0) = ord := hord.symm
    simp only [okAny, Bool.and_eq_true] at hA
    obtain ⟨⟨⟨hM, hL⟩, hP⟩, hI⟩ := hA
    simp only [okIdx, Bool.and_eq_true, decide_eq_true_eq] at hI
    obtain ⟨⟨hI1, hI2⟩, hnd⟩ := hI
    have hin : ∀ i, i < ops.size → ∃ c, (i, c) ∈ ord := fun i hi => by
      obtain ⟨x, hx, he⟩ := List.any_eq_true.1 (List.all_eq_true.1 hI1 i (by simpa using hi))
      exact ⟨x.2, by rw [← (beq_iff_eq.1 he)]; exact hx⟩
    have hlt : ∀ x ∈ ord, x.1 < ops.size := fun x hx => by simpa using List.all_eq_true.1 hI2 x hx
    obtain ⟨p, g1, g2, g3, g4⟩ := m.good
    have hmask := fun k o ho hall j hj => qos (ops := ops) hM m.down _ k o rfl ho hall j hj
    refine ⟨fun hnone => ?_, fun i hi => ?_⟩
    · exfalso
      -- one that has not come up, the first of them
      have hex : ∃ i, i < ops.size ∧ Tof listed i = false := by
        have : 0 < leftN ops.size listed := by omega
        unfold leftN left at this
        obtain ⟨x, hx⟩ := List.exists_mem_of_length_pos this
        obtain ⟨hx1, hx2⟩ := List.mem_filter.1 hx
        obtain ⟨y, hy, rfl⟩ := List.mem_map.1 hx1
        exact ⟨y, by simpa using hy, by simpa using hx2⟩
      obtain ⟨i, hi1, hi2⟩ := hex
      have : ∀ n k, (ranks ops.size (ord.map (·.1))).getD k 0 = n → k < ops.size → Tof listed k = false → False := by
        intro n
        induction n using Nat.strongRecOn with
        | _ n ihk =>
          intro k hkn hk1 hk2
          have hr : k ∈ Region.ready .any ops listed := by
            refine mem_ready.2 ⟨?_, ops[k], Array.getElem?_eq_getElem hk1, fun e he hb => ?_⟩
            · have hs : k < listed.size := by rw [m.size]; exact hk1
              unfold Tof at hk2
              simp [hs] at hk2 ⊢
              exact hk2
            · cases hT : Tof listed e.on with
              | true => exact hT
              | false =>
                have hl := List.all_eq_true.1 hL k (by simpa using hk1)
                simp only [Array.getElem?_eq_getElem hk1] at hl
                have := (Array.all_eq_true_iff_forall_mem.1 hl) e he
                simp only [hb, Bool.not_true, Bool.false_or, decide_eq_true_eq] at this
                exact (ihk _ (by rw [← hkn]; exact this.1) e.on rfl this.2 hT).elim
          rw [hnone] at hr
          cases hr
      exact this _ i rfl hi1 hi2
    · obtain ⟨hun, o, ho, hdeps⟩ := mem_ready.1 hi
      have hi' := (Array.getElem?_eq_some_iff.1 ho).1
      have hs : i < listed.size := by rw [m.size]; exact hi'
      have hT : Tof listed i = false := by
        unfold Tof
        simp [hs] at hun ⊢
        exact hun
      obtain ⟨c, hc⟩ := hin i hi'
      have hdown : Down ops (listed.setIfInBounds i true) := fun k o' ho' hk e he hb => by
        rw [qf3 hs] at hk ⊢
        split
        · rfl
        · by_cases hki : k = i
          · subst hki
            rw [ho] at ho'
            injection ho' with ho'
            subst ho'
            exact hdeps e he hb
          · rw [if_neg hki] at hk
            exact m.down k o' ho' hk e he hb
      have hleft := qr4 (ord := (List.range ops.size).map fun i => (i, Cls.d)) (c := Cls.d) (by rw [List.map_map]; have : (Prod.fst ∘ fun i : Nat => (i, Cls.d)) = id := rfl; rw [this, List.map_id]; exact List.nodup_range) (List.mem_map.2 ⟨i, by simpa using hi', rfl⟩) hs hT
      -- who must have come up, who cannot have
      have before : ∀ x y : Nat × Cls, x.1 < ops.size → pairOk ops (masks ops (ord.map (·.1))) x y = true → y.1 = i → Tof listed x.1 = false → x.2.isW = false ∧ ¬(x.2 = .r ∧ y.2.isW = true) ∧ apartAt ops x.1 y.1 = true := fun x y hx hp hy hf => qlA hp (by
        cases hb : ((masks ops (ord.map (·.1))).getD y.1 0).testBit x.1 with
        | false => rfl
        | true =>
          rw [hy] at hb
          rw [hmask i o ho hdeps x.1 hx hb] at hf
          cases hf)
      have behind : ∀ x y : Nat × Cls, y.1 < ops.size → pairOk ops (masks ops (ord.map (·.1))) x y = true → x.1 = i → Tof listed y.1 = true → x.2.isW = false ∧ ¬(x.2 = .r ∧ y.2.isW = true) ∧ apartAt ops x.1 y.1 = true := fun x y hy hp hx ht => qlA hp (by
        cases hb : ((masks ops (ord.map (·.1))).getD y.1 0).testBit x.1 with
        | false => rfl
        | true =>
          have h1 := hmask y.1 _ (Array.getElem?_eq_getElem hy) (m.down y.1 _ (Array.getElem?_eq_getElem hy) ht) x.1 (by rw [hx]; exact hi') hb
          rw [hx, hT] at h1
          cases h1)
      have apartL : ∀ {j k : Nat} {x y : Oper}, apartAt ops j k = true → ops[j]? = some x → ops[k]? = some y → x.apart ops y = true := fun {j k x y} h hx hy => by
        unfold apartAt at h
        rw [hx, hy] at h
        exact h
      rw [← hall0] at hc
      rcases List.mem_append.1 hc with hc' | hc'
      · -- it is pending
        obtain ⟨e, he, hec⟩ := List.mem_map.1 hc'
        obtain ⟨d1, d2, hsplit⟩ := List.append_of_mem he
        obtain rfl : e.i = i := congrArg Prod.fst hec
        obtain ⟨hE, heo, hpend⟩ := m.chain d1 e d2 hsplit
        obtain ⟨hp, hcw⟩ := hpend hT
        have heq : e.o = o := by rw [heo] at ho; injection ho
        have hunl : ∀ x ∈ done, Tof listed x.i = false → x.c ≠ .x := fun x hx hf e => by
          obtain ⟨u1, u2, hu⟩ := List.append_of_mem hx
          have := ((m.chain u1 x u2 hu).2.2 hf).2
          rw [e] at this
          cases this
        have hpair1 : ∀ x ∈ d1, Tof listed x.i = false → pairOk ops (masks ops (ord.map (·.1))) (x.i, x.c) (e.i, e.c) = true := fun x hx hf => by
          obtain ⟨u1, u2, hu⟩ := List.append_of_mem hx
          have : okPairs ops (masks ops (ord.map (·.1))) ((u1.map fun e => (e.i, e.c)) ++ (x.i, x.c) :: ((u2.map fun e => (e.i, e.c)) ++ (e.i, e.c) :: ((d2.map fun e => (e.i, e.c)) ++ (l ++ t0)))) = true := by
            rw [← hP, ← hall0, hsplit, hu]; simp
          exact qgI this (hunl x (by rw [hsplit]; exact List.mem_append_left _ hx) hf) (by simp)
        have hpair2 : ∀ x ∈ d2, pairOk ops (masks ops (ord.map (·.1))) (e.i, e.c) (x.i, x.c) = true := fun x hx => by
          have : okPairs ops (masks ops (ord.map (·.1))) ((d1.map fun e => (e.i, e.c)) ++ (e.i, e.c) :: ((d2.map fun e => (e.i, e.c)) ++ (l ++ t0))) = true := by
            rw [← hP, ← hall0, hsplit]; simp
          exact qgI this (fun h => by have := hcw; simp only at h; rw [h] at this; cases this) (List.mem_append_left _ (List.mem_map_of_mem hx))
        have hmemlt : ∀ x ∈ done, x.i < ops.size ∧ ops[x.i]? = some x.o := fun x hx => by
          obtain ⟨u1, u2, hu⟩ := List.append_of_mem hx
          have := (m.chain u1 x u2 hu).2.1
          exact ⟨(Array.getElem?_eq_some_iff.1 this).1, this⟩
        have hin1 : ∀ x ∈ d1, x ∈ done := fun x hx => by rw [hsplit]; exact List.mem_append_left _ hx
        have hin2 : ∀ x ∈ d2, x ∈ done := fun x hx => by rw [hsplit]; exact List.mem_append_right _ (List.mem_cons_of_mem _ hx)
        have hlook : ∀ t ∈ o.looksAt ops, lk (envT (Tof listed) env0 done) t = lk e.E t := fun t ht => by
          rw [hsplit, qlV]
          have hcons : envT (Tof listed) (envT (Tof listed) env0 d1) (e :: d2) = envT (Tof listed) (envT (Tof listed) env0 d1) d2 := by simp [envT, hT]
          rw [hcons, qlq, hE]
          · refine qne (fun x hx hd => ?_) rfl
            cases hf : Tof listed x.i with
            | true => rfl
            | false =>
              have := (before (x.i, x.c) (e.i, e.c) (hmemlt x (hin1 x hx)).1 (hpair1 x hx hf) rfl hf).2.2
              have h5 := apartL this (hmemlt x (hin1 x hx)).2 ho
              exact absurd ht ((Oper.apart_spec h5).1 t hd)
          · intro x hx hf hd
            have := (behind (e.i, e.c) (x.i, x.c) (hmemlt x (hin2 x hx)).1 (hpair2 x hx) rfl hf).2.2
            have h5 := apartL this ho (hmemlt x (hin2 x hx)).2
            exact (Oper.apart_spec h5).2.2 t hd ht
        have hrep : ∀ t ∈ o.looksAt ops, ∀ d, lk e.E t = some d → Rep p w d (a.tmps.getD t Go.undef) := fun t ht d hd => g2 t d (by rw [hlook t ht]; exact hd)
        have hput : ∀ t, lk (envT (Tof (listed.setIfInBounds e.i true)) env0 done) t = lk ((envT (Tof listed) env0 done).put o.dst e.V) t := fun t => by
          have hne1 : ∀ x ∈ d1, x.i ≠ e.i := fun x hx hxe => by
            rw [← hall0, hsplit] at hnd
            simp only [List.map_append, List.map_cons, List.map_map] at hnd
            have := List.nodup_append.1 (List.nodup_append.1 hnd).1
            exact this.2.2 _ (List.mem_map_of_mem hx) _ (List.mem_cons_self ..) hxe
          have hne2 : ∀ x ∈ d2, x.i ≠ e.i := fun x hx hxe => by
            rw [← hall0, hsplit] at hnd
            simp only [List.map_append, List.map_cons, List.map_map] at hnd
            have := (List.nodup_append.1 (List.nodup_append.1 hnd).1).2.1
            simp only [List.nodup_cons] at this
            exact this.1 (List.mem_map.2 ⟨x, hx, hxe⟩)
          have e1 : envT (Tof (listed.setIfInBounds e.i true)) env0 done = envT (Tof listed) ((envT (Tof listed) env0 d1).put o.dst e.V) d2 := by
            rw [hsplit, qlV, qjn (T := Tof (listed.setIfInBounds e.i true)) (T' := Tof listed) (l := d1) fun x hx => by rw [qf3 hs, if_neg (hne1 x hx)]]
            have : envT (Tof (listed.setIfInBounds e.i true)) (envT (Tof listed) env0 d1) (e :: d2) = envT (Tof (listed.setIfInBounds e.i true)) ((envT (Tof listed) env0 d1).put o.dst e.V) d2 := by
              simp [envT, qf3 hs, heq]
            rw [this]
            exact qjn fun x hx => by rw [qf3 hs, if_neg (hne2 x hx)]
          have e2 : envT (Tof listed) env0 done = envT (Tof listed) (envT (Tof listed) env0 d1) d2 := by
            rw [hsplit, qlV]; simp [envT, hT]
          rw [e1, e2, qiu]
          by_cases hd : o.dst = some t
          · rw [if_pos hd, qlq, qiu, if_pos hd]
            intro x hx hf hxd
            have := (behind (e.i, e.c) (x.i, x.c) (hmemlt x (hin2 x hx)).1 (hpair2 x hx) rfl hf).2.2
            have h5 := apartL this ho (hmemlt x (hin2 x hx)).2
            exact (Oper.apart_spec h5).2.1 t hd hxd
          · rw [if_neg hd]
            have gen : ∀ (m : List PE) (A B : Env), lk A t = lk B t → lk (envT (Tof listed) A m) t = lk (envT (Tof listed) B m) t := by
              intro m
              induction m with
              | nil => exact fun A B h => h
              | cons x m ihm =>
                intro A B h
                simp only [envT, List.foldl_cons]
                refine ihm _ _ ?_
                split
                · simp only [qiu]; split <;> simp [h]
                · exact h
            exact gen d2 _ _ (by rw [qiu, if_neg hd])
        have next : ∀ (a' : Act) (w' : World) (p' : Addr → Prop) (v : Value), a' = a.put o.dst v → Rep p' w' e.V v → Inv K p' σ w' → Grow p w p' w' → Mid P ops X Q K n md T env0 done l (listed.setIfInBounds e.i true) σ a' w' := fun a' w' p' v ha' hv hi2 hg => by
          have hnin : ∀ t ∈ T, ∀ x ∈ l ++ t, x.1 ≠ e.i := fun t ht x hx hxe => by
            have hk := m.ok t ht
            simp only [okAny, Bool.and_eq_true, okIdx, decide_eq_true_eq] at hk
            have hnd := hk.2.2
            rw [List.map_append, List.map_map] at hnd
            exact (List.nodup_append.1 hnd).2.2 _ (List.mem_map_of_mem he) _ (List.mem_map_of_mem hx) hxe.symm
          refine ⟨m.ok, m.nonem, fun u1 x u2 hu => ?_, m.rest, m.head, m.thead, m.tpair, m.lx, m.tx, fun x hx => ?_, fun t ht x hx => ?_, hdown, by simpa using m.size, ⟨p', hi2, fun t d ht => ?_, ?_, ?_⟩⟩
          · obtain ⟨q1, q2, q3⟩ := m.chain u1 x u2 hu
            refine ⟨q1, q2, fun hf => q3 ?_⟩
            rw [qf3 hs] at hf
            split at hf
            · cases hf
            · exact hf
          · rw [qf3 hs, if_neg (hnin t0 ht0 x (List.mem_append_left _ hx)), m.new x hx]
          · rw [qf3 hs, if_neg (hnin t ht x (List.mem_append_right _ hx)), m.tnew t ht x hx]
          · rw [hput t] at ht
            have hr' := (g2.grow hg).put (dst := o.dst) hv fun t ht => Nat.lt_of_lt_of_le (qln hok ho t ht) g3
            rw [ha']
            exact hr' t d ht
          · rw [ha', qlT]; exact g3
          · rw [ha', qhJ]; exact g4
        unfold wpOpIn
        simp only [ho]
        have hlf : leftN ops.size (listed.setIfInBounds e.i true) = fuel := by unfold leftN at h0 ⊢; omega
        rcases hp with ⟨hw, hV⟩ | ⟨hw, hp⟩
        · rw [heq] at hw
          rw [qhf hrep hw]
          simp only [Bool.false_eq_true, if_false]
          exact ⟨fun f _ => qnI _ f, ih _ _ _ _ _ _ _ (next _ w p Go.undef rfl (by rw [hV]; simp only [Rep]) g1 (Grow.refl p w)) hlf⟩
        · rw [heq] at hw
          rw [qhf hrep hw]
          simp only [if_true]
          have hst : StepS P o (ev e.E) σ fun d' σ' => d' = e.V ∧ σ' = σ := by
            rw [← heq]
            rcases hp with ⟨_, hp⟩ | ⟨_, hp⟩
            · exact hp σ
            · exact hp
          refine qlg (fun a' w' hh => ?_) (fun _ _ _ hh => hh.elim) (hst.y md.rd K p a w g1 (ql9 hok ho hrep))
          obtain ⟨v, d, σ', p', ha', ⟨rfl, rfl⟩, hv, hi2, hg⟩ := hh
          exact ih _ _ _ _ _ _ _ (next a' w' p' v ha' hv hi2 hg) hlf
      · -- it is the next one of our order
        obtain ⟨T', ci, lrest, hW, hT'ok, hT'some, hT'run, hT'head, hT'pair, hT'lx, hT'tx, hT'new, hT'tnew⟩ : ∃ (T' : List (List (Nat × Cls))) (ci : Cls) (lrest : List (Nat × Cls)), ci.isW = true ∧ (∀ t ∈ T', okAny ops (done.map (fun e => (e.i, e.c)) ++ ((i, ci) :: lrest ++ t)) = true) ∧ (∃ t, t ∈ T') ∧ Run P ops X (fun e s => ∀ t ∈ T', Run P ops X Q t e s) ((i, ci) :: lrest) (envA env0 done) σ ∧ (∀ t ∈ T', t = [] ∨ ∃ i c t', t = (i, c) :: t' ∧ c.isW = true) ∧ (∀ t ∈ T', ∀ i t' j, t = (i, .x) :: t' → firstW t' = some j → ∃ t2 ∈ T', ∃ t2', t2 = (j, .x) :: t2') ∧ (∀ x ∈ lrest, x.2 ≠ .x) ∧ (∀ t ∈ T', ∀ x ∈ t.tail, x.2 ≠ .x) ∧ (∀ x ∈ lrest, Tof listed x.1 = false) ∧ (∀ t ∈ T', ∀ x ∈ t, Tof listed x.1 = false) := by
          rcases m.head with hl | ⟨i0, c0, l', hl, hc0⟩
          · -- one of the ends
            subst hl
            have hend : ∀ t ∈ T, ∀ ci t', t = (i, ci) :: t' → ci.isW = true → ∃ (T' : List (List (Nat × Cls))) (ci : Cls) (lrest : List (Nat × Cls)), ci.isW = true ∧ (∀ t ∈ T', okAny ops (done.map (fun e => (e.i, e.c)) ++ ((i, ci) :: lrest ++ t)) = true) ∧ (∃ t, t ∈ T') ∧ Run P ops X (fun e s => ∀ t ∈ T', Run P ops X Q t e s) ((i, ci) :: lrest) (envA env0 done) σ ∧ (∀ t ∈ T', t = [] ∨ ∃ i c t', t = (i, c) :: t' ∧ c.isW = true) ∧ (∀ t ∈ T', ∀ i t' j, t = (i, .x) :: t' → firstW t' = some j → ∃ t2 ∈ T', ∃ t2', t2 = (j, .x) :: t2') ∧ (∀ x ∈ lrest, x.2 ≠ .x) ∧ (∀ t ∈ T', ∀ x ∈ t.tail, x.2 ≠ .x) ∧ (∀ x ∈ lrest, Tof listed x.1 = false) ∧ (∀ t ∈ T', ∀ x ∈ t, Tof listed x.1 = false) := fun t ht ci t' he hW => by
              subst he
              refine ⟨[[]], ci, t', hW, fun u hu => ?_, ⟨[], List.mem_singleton.2 rfl⟩, qim (fun e s h u hu => by rw [List.mem_singleton.1 hu]; exact h) _ _ _ (m.rest _ ht), fun u hu => .inl (List.mem_singleton.1 hu), fun u hu i t'' j h _ => (by rw [List.mem_singleton.1 hu] at h; cases h), m.tx _ ht, fun u hu x hx => (by rw [List.mem_singleton.1 hu] at hx; cases hx), fun x hx => m.tnew _ ht x (List.mem_cons_of_mem _ hx), fun u hu x hx => (by rw [List.mem_singleton.1 hu] at hx; cases hx)⟩
              rw [List.mem_singleton.1 hu, List.append_nil]
              exact m.ok _ ht
            rcases m.thead t0 ht0 with ht | ⟨i0, c0, t0', ht, hc0⟩
            · rw [ht] at hc'; cases hc'
            · by_cases hii : i = i0
              · subst hii
                exact hend t0 ht0 c0 t0' ht hc0
              · rw [List.nil_append, ht] at hc'
                rcases List.mem_cons.1 hc' with h | h
                · exact absurd (congrArg Prod.fst h) hii
                · have hx0 : i0 < ops.size := hlt (i0, c0) (by rw [← hall0, ht]; simp)
                  have hf0 : Tof listed i0 = false := m.tnew t0 ht0 (i0, c0) (by rw [ht]; simp)
                  have hP' : okPairs ops (masks ops (ord.map (·.1))) ((done.map fun e => (e.i, e.c)) ++ (i0, c0) :: t0') = true := by
                    rw [← hP, ← hall0, ht]; simp
                  have habs : pairOk ops (masks ops (ord.map (·.1))) (i0, c0) (i, c) = true → False := fun hp => by
                    have := (before (i0, c0) (i, c) hx0 hp rfl hf0).1
                    simp only at this
                    rw [hc0] at this
                    cases this
                  by_cases hcx : c0 = .x
                  · subst hcx
                    cases hfw : firstW t0' with
                    | none => exact (habs (qmK hP' h fun j hj => by rw [hfw] at hj; cases hj)).elim
                    | some j =>
                      by_cases hij : i = j
                      · subst hij
                        obtain ⟨t2, ht2, t2', h2⟩ := m.tpair t0 ht0 i0 t0' i ht hfw
                        exact hend t2 ht2 .x t2' h2 rfl
                      · obtain ⟨cj, hcj⟩ := qm6 hfw
                        have hjm : (j, cj) ∈ t0 := by rw [ht]; exact List.mem_cons_of_mem _ hcj
                        have hjf : Tof listed j = false := m.tnew t0 ht0 (j, cj) hjm
                        have hjlt : j < ops.size := hlt (j, cj) (by rw [← hall0]; exact List.mem_append_right _ (List.mem_append_right _ hjm))
                        cases hb : ((masks ops (ord.map (·.1))).getD i 0).testBit j with
                        | true =>
                          rw [hmask i o ho hdeps j hjlt hb] at hjf
                          cases hjf
                        | false => exact (habs (qmK hP' h fun j' hj' => by
                          rw [hfw] at hj'
                          injection hj' with hj'
                          subst hj'
                          exact ⟨hij, hb⟩)).elim
                  · exact (habs (qgI hP' hcx h)).elim
          · subst hl
            have hii : i = i0 := by
              rcases List.mem_cons.1 (by simpa using hc' : (i, c) ∈ (i0, c0) :: (l' ++ t0)) with h | h
              · exact congrArg Prod.fst h
              · exfalso
                have hx0 : i0 < ops.size := hlt (i0, c0) (by rw [← hall0]; simp)
                have hP' : okPairs ops (masks ops (ord.map (·.1))) ((done.map fun e => (e.i, e.c)) ++ (i0, c0) :: (l' ++ t0)) = true := by
                  rw [← hP, ← hall0]; simp
                have hp := qgI hP' (m.lx (i0, c0) (List.mem_cons_self ..)) h
                have := (before (i0, c0) (i, c) hx0 hp rfl (m.new (i0, c0) (List.mem_cons_self ..))).1
                simp only at this
                rw [hc0] at this
                cases this
            subst hii
            exact ⟨T, c0, l', hc0, m.ok, m.nonem, m.rest, m.thead, m.tpair, fun x hx => m.lx x (List.mem_cons_of_mem _ hx), m.tx, fun x hx => m.new x (List.mem_cons_of_mem _ hx), m.tnew⟩
        clear hc hc'
        obtain ⟨t1, ht1⟩ := hT'some
        have hA1 := hT'ok t1 ht1
        obtain ⟨ord, hord⟩ : ∃ ord, ord = done.map (fun e => (e.i, e.c)) ++ ((i, ci) :: lrest ++ t1) := ⟨_, rfl⟩
        rw [← hord] at hA1
        have hall0 : done.map (fun e => (e.i, e.c)) ++ ((i, ci) :: lrest ++ t1) = ord := hord.symm
        simp only [okAny, Bool.and_eq_true] at hA1
        obtain ⟨⟨⟨hM, hL⟩, hP⟩, hI⟩ := hA1
        simp only [okIdx, Bool.and_eq_true, decide_eq_true_eq] at hI
        obtain ⟨⟨hI1, hI2⟩, hnd⟩ := hI
        have hin : ∀ i, i < ops.size → ∃ c, (i, c) ∈ ord := fun i hi => by
          obtain ⟨x, hx, he⟩ := List.any_eq_true.1 (List.all_eq_true.1 hI1 i (by simpa using hi))
          exact ⟨x.2, by rw [← (beq_iff_eq.1 he)]; exact hx⟩
        have hlt : ∀ x ∈ ord, x.1 < ops.size := fun x hx => by simpa using List.all_eq_true.1 hI2 x hx
        have hmask := fun k o ho hall j hj => qos (ops := ops) hM m.down _ k o rfl ho hall j hj
        have before : ∀ x y : Nat × Cls, x.1 < ops.size → pairOk ops (masks ops (ord.map (·.1))) x y = true → y.1 = i → Tof listed x.1 = false → x.2.isW = false ∧ ¬(x.2 = .r ∧ y.2.isW = true) ∧ apartAt ops x.1 y.1 = true := fun x y hx hp hy hf => qlA hp (by
          cases hb : ((masks ops (ord.map (·.1))).getD y.1 0).testBit x.1 with
          | false => rfl
          | true =>
            rw [hy] at hb
            rw [hmask i o ho hdeps x.1 hx hb] at hf
            cases hf)
        have hunl : ∀ x ∈ done, Tof listed x.i = false → x.c ≠ .x := fun x hx hf e => by
          obtain ⟨u1, u2, hu⟩ := List.append_of_mem hx
          have := ((m.chain u1 x u2 hu).2.2 hf).2
          rw [e] at this
          cases this
        have hpair : ∀ x ∈ done, Tof listed x.i = false → pairOk ops (masks ops (ord.map (·.1))) (x.i, x.c) (i, ci) = true := fun x hx hf => by
          obtain ⟨u1, u2, hu⟩ := List.append_of_mem hx
          have : okPairs ops (masks ops (ord.map (·.1))) ((u1.map fun e => (e.i, e.c)) ++ (x.i, x.c) :: ((u2.map fun e => (e.i, e.c)) ++ (i, ci) :: (lrest ++ t1))) = true := by
            rw [← hP, ← hall0, hu]; simp
          exact qgI this (hunl x hx hf) (by simp)
        have hmemlt : ∀ x ∈ done, x.i < ops.size ∧ ops[x.i]? = some x.o := fun x hx => by
          obtain ⟨u1, u2, hu⟩ := List.append_of_mem hx
          have := (m.chain u1 x u2 hu).2.1
          exact ⟨(Array.getElem?_eq_some_iff.1 this).1, this⟩
        have hne : ∀ x ∈ done, x.i ≠ i := fun x hx hxe => by
          rw [← hall0] at hnd
          simp only [List.map_append, List.map_map, List.map_cons, List.cons_append] at hnd
          exact (List.nodup_append.1 hnd).2.2 _ (List.mem_map_of_mem hx) _ (List.mem_cons_self ..) hxe
        have hlook : ∀ t ∈ o.looksAt ops, lk (envT (Tof listed) env0 done) t = lk (envA env0 done) t := fun t ht =>
          qne (fun x hx hd => by
            cases hf : Tof listed x.i with
            | true => rfl
            | false =>
              have := (before (x.i, x.c) (i, ci) (hmemlt x hx).1 (hpair x hx hf) rfl hf).2.2
              have h5 := apartL this (hmemlt x hx).2 ho
              exact absurd ht ((Oper.apart_spec h5).1 t hd)) rfl
        have hrep : ∀ t ∈ o.looksAt ops, ∀ d, lk (envA env0 done) t = some d → Rep p w d (a.tmps.getD t Go.undef) := fun t ht d hd => g2 t d (by rw [hlook t ht]; exact hd)
        have next : ∀ (a' : Act) (w' : World) (p' : Addr → Prop) (v : Value) (V : D) (σ' : St), a' = a.put o.dst v → Rep p' w' V v → Inv K p' σ' w' → Grow p w p' w' → Run P ops X (fun e s => ∀ t ∈ T', Run P ops X Q t e s) lrest ((envA env0 done).put o.dst V) σ' →
            ∃ done' l'', Mid P ops X Q K n md T' env0 done' l'' (listed.setIfInBounds i true) σ' a' w' := fun a' w' p' v V σ' ha' hv hi2 hg hrun => by
          obtain ⟨new, l'', h1, h2, h3, h4⟩ := absorb env0 σ' lrest _ hrun
          have heA : envA env0 (done ++ [⟨i, ci, o, envA env0 done, V⟩]) = (envA env0 done).put o.dst V := by simp [envT]
          have hndT : ∀ t ∈ T', (done.map (fun e => e.i) ++ i :: (new.map (fun e => e.i) ++ (l''.map (·.1) ++ t.map (·.1)))).Nodup := fun t ht => by
            have hk := hT'ok t ht
            simp only [okAny, Bool.and_eq_true, okIdx, decide_eq_true_eq] at hk
            have := hk.2.2
            rw [h1] at this
            simpa [List.map_map, Function.comp_def] using this
          have hnd' := hndT t1 ht1
          have hnd2 := List.nodup_append.1 hnd'
          have hnd3 := List.nodup_cons.1 hnd2.2.1
          refine ⟨done ++ ⟨i, ci, o, envA env0 done, V⟩ :: new, l'', ⟨fun t ht => by have := hT'ok t ht; rw [h1] at this; simpa using this, ⟨t1, ht1⟩, fun u1 x u2 hu => ?_, ?_, h4, hT'head, hT'pair, fun x hx => hT'lx x (by rw [h1]; exact List.mem_append_right _ hx), hT'tx, fun x hx => ?_, fun t ht x hx => ?_, hdown, by simpa using m.size, ⟨p', hi2, fun t d ht => ?_, ?_, ?_⟩⟩⟩
          · -- the chain
            rcases List.append_eq_append_iff.1 hu with ⟨v1, hv1, hv2⟩ | ⟨v1, hv1, hv2⟩
            · cases v1 with
              | nil =>
                simp only [List.nil_append, List.cons.injEq] at hv2
                obtain ⟨rfl, rfl⟩ := hv2
                simp only [List.append_nil] at hv1
                subst hv1
                exact ⟨rfl, ho, fun hf => by rw [qf3 hs, if_pos rfl] at hf; cases hf⟩
              | cons y v1 =>
                simp only [List.cons_append, List.cons.injEq] at hv2
                obtain ⟨rfl, hv2⟩ := hv2
                obtain ⟨q1, q2, q3, q4⟩ := h3 v1 x u2 hv2
                refine ⟨?_, q2, fun _ => ⟨q3, q4⟩⟩
                rw [q1, hv1]
                simp [envT]
            · cases v1 with
              | nil =>
                simp only [List.nil_append, List.cons.injEq] at hv2
                obtain ⟨rfl, rfl⟩ := hv2
                simp only [List.append_nil] at hv1
                subst hv1
                exact ⟨rfl, ho, fun hf => by rw [qf3 hs, if_pos rfl] at hf; cases hf⟩
              | cons y v1 =>
                simp only [List.cons_append, List.cons.injEq] at hv2
                obtain ⟨rfl, hv2⟩ := hv2
                have hxin : x ∈ done := by rw [hv1]; simp
                obtain ⟨q1, q2, q3⟩ := m.chain u1 x v1 hv1
                refine ⟨q1, q2, fun hf => ?_⟩
                rw [qf3 hs, if_neg (hne x hxin)] at hf
                obtain ⟨q4, q5⟩ := q3 hf
                refine ⟨?_, q5⟩
                have hnr := (before (x.i, x.c) (i, ci) (hmemlt x hxin).1 (hpair x hxin hf) rfl hf).2.1
                rcases q4 with q4 | ⟨q4, q6⟩
                · exact .inl q4
                · refine .inr ⟨q4, ?_⟩
                  rcases q6 with q6 | ⟨q6, _⟩
                  · exact .inl q6
                  · exact absurd ⟨q6, hW⟩ hnr
          · have hee : envA env0 (done ++ (⟨i, ci, o, envA env0 done, V⟩ : PE) :: new) = envA ((envA env0 done).put o.dst V) new := by
              rw [← heA]
              simp [envT]
            rw [hee]
            exact h2
          · have hxi : x.1 ≠ i := fun e => hnd3.1 (by rw [← e]; exact List.mem_append_right _ (List.mem_append_left _ (List.mem_map_of_mem hx)))
            rw [qf3 hs, if_neg hxi]
            exact hT'new x (by rw [h1]; exact List.mem_append_right _ hx)
          · have hxi : x.1 ≠ i := fun e => (List.nodup_cons.1 (List.nodup_append.1 (hndT t ht)).2.1).1 (by rw [← e]; exact List.mem_append_right _ (List.mem_append_right _ (List.mem_map_of_mem hx)))
            rw [qf3 hs, if_neg hxi]
            exact hT'tnew t ht x hx
          · have hT' : ∀ x ∈ done, Tof (listed.setIfInBounds i true) x.i = Tof listed x.i := fun x hx => by rw [qf3 hs, if_neg (hne x hx)]
            have hnewf : ∀ x ∈ new, Tof (listed.setIfInBounds i true) x.i = false := fun x hx => by
              have hxi : x.i ≠ i := fun e => hnd3.1 (by rw [← e]; exact List.mem_append_left _ (List.mem_map_of_mem hx))
              rw [qf3 hs, if_neg hxi]
              exact hT'new (x.i, x.c) (by rw [h1]; exact List.mem_append_left _ (List.mem_map_of_mem hx))
            rw [qlV, qjn hT'] at ht
            have hcons : envT (Tof (listed.setIfInBounds i true)) (envT (Tof listed) env0 done) (⟨i, ci, o, envA env0 done, V⟩ :: new) = envT (Tof (listed.setIfInBounds i true)) ((envT (Tof listed) env0 done).put o.dst V) new := by simp [envT, qf3 hs]
            rw [hcons, qlq (fun x hx hf => by rw [hnewf x hx] at hf; cases hf)] at ht
            have hr' := (g2.grow hg).put (dst := o.dst) hv fun t ht => Nat.lt_of_lt_of_le (qln hok ho t ht) g3
            rw [ha']
            exact hr' t d ht
          · rw [ha', qlT]; exact g3
          · rw [ha', qhJ]; exact g4
        have hlf : leftN ops.size (listed.setIfInBounds i true) = fuel := by unfold leftN at h0 ⊢; omega
        unfold wpOpIn
        simp only [ho]
        obtain ⟨o', ho', hrun⟩ := hT'run
        obtain rfl : o' = o := by rw [ho] at ho'; injection ho' with h; exact h.symm
        have hrun : (wantD ops (envA env0 done) o' = some false ∧ Run P ops X (fun e s => ∀ t ∈ T', Run P ops X Q t e s) lrest ((envA env0 done).put o'.dst .undef) σ) ∨ (wantD ops (envA env0 done) o' = some true ∧ ∃ R, StepY P o' (ev (envA env0 done)) σ R ∧ ∀ d σ', R d σ' → Run P ops X (fun e s => ∀ t ∈ T', Run P ops X Q t e s) lrest ((envA env0 done).put o'.dst d) σ') ∨ (wantD ops (envA env0 done) o' = some true ∧ ∃ e d τ, X e d τ ∧ DieT P o' (ev (envA env0 done)) σ τ d) := by
          rcases hrun with hrun | hrun | ⟨hw, e, d, τ, _, hx, hdie, _⟩
          · exact .inl hrun
          rotate_left
          · exact .inr (.inr ⟨hw, e, d, τ, hx, hdie⟩)
          refine .inr (.inl ?_)
          cases ci with
          | w => exact hrun
          | x => exact hrun
          | d => cases hW
          | r => cases hW
        rcases hrun with ⟨hw, hk⟩ | ⟨hw, R, hst, hk⟩ | ⟨hw, e₀, d, τ, hx, hdie⟩
        rotate_right
        · rw [qhf hrep hw]
          simp only [if_true]
          obtain ⟨hx', hrd⟩ := hX e₀ d τ hx
          rw [hrd]
          refine qlg (fun a' w' hh => hh.elim) (fun e a' w' hh => ?_) (qkm (hdie K p a w g1 (ql9 hok ho hrep)))
          obtain ⟨v, p', rfl, rfl, hv, hi2, hg⟩ := hh
          exact .inr ⟨v, d, τ, p', [], rfl, hx', hv, hi2, fun t d' ht => (by cases ht), g4⟩
        · rw [qhf hrep hw]
          simp only [Bool.false_eq_true, if_false]
          obtain ⟨done', l'', hm⟩ := next _ w p Go.undef .undef σ rfl (by simp only [Rep]) g1 (Grow.refl p w) hk
          exact ⟨fun f _ => qnI _ f, ih _ _ _ _ _ _ _ hm hlf⟩
        · rw [qhf hrep hw]
          simp only [if_true]
          refine qlg (fun a' w' hh => ?_) (fun _ _ _ hh => hh.elim) (hst md.rd K p a w g1 (ql9 hok ho hrep))
          obtain ⟨v, d, σ', p', ha', hR, hv, hi2, hg⟩ := hh
          obtain ⟨done', l'', hm⟩ := next a' w' p' v d σ' ha' hv hi2 hg (hk d σ' hR)
          exact ih _ _ _ _ _ _ _ hm hlf
theorem qqY {X : Env → D → St → Prop} {n : Nat} {md : Md} (hX : ∀ e d τ, X e d τ → X [] d τ ∧ md.rd = none) {K : Ctx} {env : Env} {σ : St} (hok : okOps ops n = true) (T : List (List (Nat × Cls))) (ord : List (Nat × Cls)) (hA : ∀ t ∈ T, okAny ops (ord ++ t) = true) (hT : ∃ t, t ∈ T) (hh : ∀ t ∈ T, t = [] ∨ ∃ i c t', t = (i, c) :: t' ∧ c.isW = true)
    (hp : ∀ t ∈ T, ∀ i t' j, t = (i, .x) :: t' → firstW t' = some j → ∃ t2 ∈ T, ∃ t2', t2 = (j, .x) :: t2') (hx : ∀ x ∈ ord, x.2 ≠ .x) (htx : ∀ t ∈ T, ∀ x ∈ t.tail, x.2 ≠ .x) (h : Run P ops X (fun e s => ∀ t ∈ T, Run P ops X Q t e s) ord env σ)
    {p : Addr → Prop} {a : Act} {w : World} (hi : Inv K p σ w) (hr : RelEnv p w env a) (hn : n ≤ a.tmps.size) (hd : a.defers = md.marks) :
    wpAnyIn (fw md.rd) 0 P .any ops (EndsR P K n md X Q) ops.size (Array.replicate ops.size false) a w := by
  obtain ⟨new, l', h1, h2, h3, h4⟩ := absorb (P := P) (Q := fun e s => ∀ t ∈ T, Run P ops X Q t e s) env σ ord env h
  have h0 : ∀ i, Tof (Array.replicate ops.size false) i = false := fun i => by
    unfold Tof
    rw [Array.getD_eq_getD_getElem?, Array.getElem?_replicate]
    split <;> rfl
  have hfuel : leftN ops.size (Array.replicate ops.size false) = ops.size := by
    unfold leftN left
    rw [List.filter_eq_self.2 fun x _ => by rw [h0]; rfl]
    simp
  refine qtd hX (P := P) (Q := Q) (K := K) (n := n) hok _ T new l' _ σ a w ⟨fun t ht => by have := hA t ht; rw [h1] at this; simpa using this, hT, fun d1 e d2 hh => ?_, h2, h4, hh, hp, fun x hxl => hx x (by rw [h1]; exact List.mem_append_right _ hxl), htx, fun x _ => h0 _, fun t _ x _ => h0 _, fun k' o _ hk => ?_, by simp, ⟨p, hi, ?_, hn, hd⟩⟩ hfuel
  · obtain ⟨q1, q2, q3, q4⟩ := h3 d1 e d2 hh
    exact ⟨q1, q2, fun _ => ⟨q3, q4⟩⟩
  · rw [h0] at hk; cases hk
  · have : envT (Tof (Array.replicate ops.size false)) env new = env := by
      have : ∀ (m : List PE), envT (Tof (Array.replicate ops.size false)) env m = env := by
        intro m
        induction m with
        | nil => rfl
        | cons x m ih => simp only [envT, List.foldl_cons, h0, Bool.false_eq_true, if_false] at ih ⊢; exact ih
      exact this new
    rw [this]
    exact hr
theorem quf {m : Md} {f : FuncId} {fn : Func} {K : Ctx} {R : D → St → Prop} {k : List Item} {env : Env} {σ : St} {id : Nat} {l : List Oper} (hm : P.follows .mixedOrders = true) (hok : okOps l.toArray fn.ntmps = true) (ord : List (Nat × Cls)) (hA : okAny l.toArray ord = true)
    (h : Run P l.toArray NX (GoesG m P f fn K R k) ord env σ) (hx : ord.all (fun x => decide (x.2 ≠ .x)) = true := by rfl) : GoesG m P f fn K R (.code (.region id l.toArray true) :: k) env σ :=
  qli (Q := GoesG m P f fn K R k) (X := NX) (fun p a w hi hr hn hd => wpIn_region_any hm (qqY (X := NX) (fun _ _ _ h => h.elim) (md := m) (P := P) (Q := GoesG m P f fn K R k) (K := K) (n := fn.ntmps) hok [[]] ord (fun t ht => by rw [List.mem_singleton.1 ht, List.append_nil]; exact hA) ⟨[], List.mem_singleton.2 rfl⟩ (fun t ht => .inl (List.mem_singleton.1 ht)) (fun t ht i t' j h _ => by rw [List.mem_singleton.1 ht] at h; cases h) (fun x hm => by simpa using List.all_eq_true.1 hx x hm) (fun t ht x hm => by rw [List.mem_singleton.1 ht] at hm; cases hm)
    (qim (fun e s h t ht => by rw [List.mem_singleton.1 ht]; exact h) _ _ _ h) hi.drew (hr.grow (qjk p w)) hn hd)) (fun _ _ _ h => h.elim) (fun _ _ h => h)
theorem ga {m : Md} {f : FuncId} {fn : Func} {K : Ctx} {R : D → St → Prop} {k : List Item} {env : Env} {σ : St} {id : Nat} {l : List Oper} (ord : List (Nat × Cls)) (h : Run P l.toArray NX (GoesG m P f fn K R k) ord env σ) (hm : P.follows .mixedOrders = true := by kernel_rfl) (hok : okOps l.toArray fn.ntmps = true := by kernel_rfl) (hA : okAny l.toArray ord = true := by kernel_rfl) (hx : ord.all (fun x => decide (x.2 ≠ .x)) = true := by rfl) : GoesG m P f fn K R (.code (.region id l.toArray true) :: k) env σ := quf hm hok ord hA h hx
theorem qpe {f : FuncId} {fn : Func} {K : Ctx} {R : D → St → Prop} {k : List Item} {env : Env} {σ : St} {id : Nat} {l : List Oper} (hm : P.follows .mixedOrders = true) (hok : okOps l.toArray fn.ntmps = true) (ord : List (Nat × Cls)) (hA : okAny l.toArray ord = true)
    (h : Run P l.toArray (fun _ => K.X) (Goes P f fn K R k) ord env σ) (hx : ord.all (fun x => decide (x.2 ≠ .x)) = true := by rfl) : Goes P f fn K R (.code (.region id l.toArray true) :: k) env σ :=
  qli (Q := Goes P f fn K R k) (X := fun _ => K.X) (fun p a w hi hr hn hd => wpIn_region_any hm (qqY (X := fun _ => K.X) (fun _ _ _ h => ⟨h, rfl⟩) (md := Md.top) (P := P) (Q := Goes P f fn K R k) (K := K) (n := fn.ntmps) hok [[]] ord (fun t ht => by rw [List.mem_singleton.1 ht, List.append_nil]; exact hA) ⟨[], List.mem_singleton.2 rfl⟩ (fun t ht => .inl (List.mem_singleton.1 ht)) (fun t ht i t' j h _ => by rw [List.mem_singleton.1 ht] at h; cases h) (fun x hm => by simpa using List.all_eq_true.1 hx x hm) (fun t ht x hm => by rw [List.mem_singleton.1 ht] at hm; cases hm)
    (qim (fun e s h t ht => by rw [List.mem_singleton.1 ht]; exact h) _ _ _ h) hi.drew (hr.grow (qjk p w)) hn hd)) (fun _ _ _ h => ⟨h, rfl⟩) (fun _ _ h => h)
def headed : List (Nat × Cls) → List (Nat × Cls) → Bool
  | (i, .x) :: a, (j, .x) :: b => (firstW a == some j) && (firstW b == some i) && a.all (fun x => decide (x.2 ≠ .x)) && b.all (fun x => decide (x.2 ≠ .x))
  | _, _ => false
def okTwo (ops : Array Oper) (pre tA tB : List (Nat × Cls)) : Bool := okAny ops (pre ++ tA) && okAny ops (pre ++ tB) && pre.all (fun x => decide (x.2 ≠ .x)) && headed tA tB
theorem qoO {tA tB : List (Nat × Cls)} (h : headed tA tB = true) : ∃ i a j b, tA = (i, .x) :: a ∧ tB = (j, .x) :: b ∧ firstW a = some j ∧ firstW b = some i ∧ (∀ x ∈ a, x.2 ≠ .x) ∧ ∀ x ∈ b, x.2 ≠ .x := by
  match tA, tB, h with
  | (i, .x) :: a, (j, .x) :: b, h =>
    simp only [headed, Bool.and_eq_true, beq_iff_eq] at h
    obtain ⟨⟨⟨h1, h2⟩, h3⟩, h4⟩ := h
    exact ⟨i, a, j, b, rfl, rfl, h1, h2, (fun x hx => by simpa using List.all_eq_true.1 h3 x hx), fun x hx => by simpa using List.all_eq_true.1 h4 x hx⟩
theorem quc {m : Md} {f : FuncId} {fn : Func} {K : Ctx} {R : D → St → Prop} {k : List Item} {env : Env} {σ : St} {id : Nat} {l : List Oper} (hm : P.follows .mixedOrders = true) (hok : okOps l.toArray fn.ntmps = true) (pre tA tB : List (Nat × Cls)) (hA : okTwo l.toArray pre tA tB = true) (J : Env → St → Prop)
    (h : Run P l.toArray NX (fun e s => Run P l.toArray NX J tA e s ∧ Run P l.toArray NX J tB e s) pre env σ) (hJ : ∀ e s, J e s → GoesG m P f fn K R k e s) : GoesG m P f fn K R (.code (.region id l.toArray true) :: k) env σ := by
  simp only [okTwo, Bool.and_eq_true] at hA
  obtain ⟨⟨⟨h1, h2⟩, h3⟩, h4⟩ := hA
  obtain ⟨i, ta, j, tb, rfl, rfl, e1, e2, e3, e4⟩ := qoO h4
  refine qli (Q := J) (X := NX) (fun p a w hi hr hn hd => wpIn_region_any hm (qqY (X := NX) (fun _ _ _ h => h.elim) (md := m) (P := P) (Q := J) (K := K) (n := fn.ntmps) hok [(i, .x) :: ta, (j, .x) :: tb] pre ?_ ⟨_, List.mem_cons_self ..⟩ ?_ ?_ (fun x hm => by simpa using List.all_eq_true.1 h3 x hm) ?_ (qim (fun e s h t ht => ?_) _ _ _ h) hi.drew (hr.grow (qjk p w)) hn hd)) (fun _ _ _ h => h.elim) hJ
  · intro t ht
    rcases List.mem_cons.1 ht with rfl | ht
    · exact h1
    · rw [List.mem_singleton.1 ht]; exact h2
  · intro t ht
    rcases List.mem_cons.1 ht with rfl | ht
    · exact .inr ⟨_, _, _, rfl, rfl⟩
    · rw [List.mem_singleton.1 ht]; exact .inr ⟨_, _, _, rfl, rfl⟩
  · intro t ht i' t' j' h hj
    rcases List.mem_cons.1 ht with rfl | ht
    · injection h with _ h6
      subst h6
      rw [e1] at hj
      injection hj with hj
      subst hj
      exact ⟨_, List.mem_cons_of_mem _ (List.mem_singleton.2 rfl), _, rfl⟩
    · rw [List.mem_singleton.1 ht] at h
      injection h with _ h6
      subst h6
      rw [e2] at hj
      injection hj with hj
      subst hj
      exact ⟨_, List.mem_cons_self .., _, rfl⟩
  · intro t ht x hx
    rcases List.mem_cons.1 ht with rfl | ht
    · exact e3 x hx
    · rw [List.mem_singleton.1 ht] at hx
      exact e4 x hx
  · rcases List.mem_cons.1 ht with rfl | ht
    · exact h.1
    · rw [List.mem_singleton.1 ht]; exact h.2
end
section
variable {P : Program} {X : Env → D → St → Prop} {Q : Env → St → Prop} {l : List Oper} {i : Nat} {o : Oper} {t : Nat} {d : D} {env : Env} {σ : St} {rest : List (Nat × Cls)} {c : Cls}
def wantL (l : List Oper) (env : Env) (o : Oper) : Option Bool :=
  match o.guard with
  | none => some true
  | some (j, want) =>
    match (l[j]?).bind (·.dst) with
    | none => none
    | some t =>
      match lk env t with
      | some (.bool b) => some (b == want)
      | some .undef => some false
      | _ => none
theorem qjL (l : List Oper) (env : Env) (o : Oper) : wantD l.toArray env o = wantL l env o := by
  unfold wantD wantL
  simp only [List.getElem?_toArray] <;> rfl
theorem ql (h : Q env σ) : Run P l.toArray X Q [] env σ := h
theorem r_d (hi : l[i]? = some o) (ht : o.dst = some t) (hw : wantL l env o = some true) (hs : StepD P o (ev env) d) (h : Run P l.toArray X Q rest ((t, d) :: env) σ) : Run P l.toArray X Q ((i, .d) :: rest) env σ :=
  ⟨o, by simpa using hi, .inr (.inl ⟨by rw [qjL]; exact hw, d, hs, by rw [ht]; exact h⟩)⟩
theorem r_r (hi : l[i]? = some o) (ht : o.dst = some t) (hw : wantL l env o = some true) (hs : StepS P o (ev env) σ fun d' σ' => d' = d ∧ σ' = σ) (h : Run P l.toArray X Q rest ((t, d) :: env) σ) : Run P l.toArray X Q ((i, .r) :: rest) env σ :=
  ⟨o, by simpa using hi, .inr (.inl ⟨by rw [qjL]; exact hw, d, hs, by rw [ht]; exact h⟩)⟩
theorem r_w {R : D → St → Prop} (hi : l[i]? = some o) (ht : o.dst = some t) (hw : wantL l env o = some true) (hs : StepS P o (ev env) σ R) (h : ∀ d σ', R d σ' → Run P l.toArray X Q rest ((t, d) :: env) σ') : Run P l.toArray X Q ((i, .w) :: rest) env σ :=
  ⟨o, by simpa using hi, .inr (.inl ⟨by rw [qjL]; exact hw, R, hs.y, fun d σ' hR => by rw [ht]; exact h d σ' hR⟩)⟩
theorem r_w0 {R : D → St → Prop} (hi : l[i]? = some o) (ht : o.dst = none) (hw : wantL l env o = some true) (hs : StepS P o (ev env) σ R) (h : ∀ d σ', R d σ' → Run P l.toArray X Q rest env σ') : Run P l.toArray X Q ((i, .w) :: rest) env σ :=
  ⟨o, by simpa using hi, .inr (.inl ⟨by rw [qjL]; exact hw, R, hs.y, fun d σ' hR => by rw [ht]; exact h d σ' hR⟩)⟩
theorem qaa {o' : List Ob} (hi : l[i]? = some o) (ht : o.dst = none) (hw : wantL l env o = some true) (hs : StepS P o (ev env) σ fun _ σ' => σ' = o') (h : Run P l.toArray X Q rest env o') : Run P l.toArray X Q ((i, .w) :: rest) env σ :=
  r_w0 hi ht hw hs fun _ _ e2 => e2 ▸ h
theorem r_x {R : D → St → Prop} (hi : l[i]? = some o) (ht : o.dst = some t) (hw : wantL l env o = some true) (hs : StepS P o (ev env) σ R) (h : ∀ d σ', R d σ' → Run P l.toArray X Q rest ((t, d) :: env) σ') : Run P l.toArray X Q ((i, .x) :: rest) env σ :=
  ⟨o, by simpa using hi, .inr (.inl ⟨by rw [qjL]; exact hw, R, hs.y, fun d σ' hR => by rw [ht]; exact h d σ' hR⟩)⟩
theorem r_wr (hi : l[i]? = some o) (ht : o.dst = some t) (hw : wantL l env o = some true) (hs : StepS P o (ev env) σ fun d' σ' => d' = d ∧ σ' = σ) (h : Run P l.toArray X Q rest ((t, d) :: env) σ) : Run P l.toArray X Q ((i, .w) :: rest) env σ :=
  r_w hi ht hw hs fun _ _ ⟨e1, e2⟩ => e1 ▸ e2 ▸ h
theorem r_xr (hi : l[i]? = some o) (ht : o.dst = some t) (hw : wantL l env o = some true) (hs : StepS P o (ev env) σ fun d' σ' => d' = d ∧ σ' = σ) (h : Run P l.toArray X Q rest ((t, d) :: env) σ) : Run P l.toArray X Q ((i, .x) :: rest) env σ :=
  r_x hi ht hw hs fun _ _ ⟨e1, e2⟩ => e1 ▸ e2 ▸ h
theorem qh (hi : l[i]? = some o) (ht : o.dst = some t) (hw : wantL l env o = some false) (h : Run P l.toArray X Q rest ((t, .undef) :: env) σ) : Run P l.toArray X Q ((i, c) :: rest) env σ :=
  ⟨o, by simpa using hi, .inl ⟨by rw [qjL]; exact hw, by rw [ht]; exact h⟩⟩
theorem qb1 (hi : l[i]? = some o) (hw : wantL l env o = some true) {τ : St} (hs : DieT P o (ev env) σ τ d) (hx : X env d τ) (hc : c.isW = true := by rfl) : Run P l.toArray X Q ((i, c) :: rest) env σ :=
  ⟨o, by simpa using hi, .inr (.inr ⟨by rw [qjL]; exact hw, env, d, τ, fun _ => rfl, hx, hs, hc⟩)⟩
theorem qrb {P : Program} {Q : Env → St → Prop} {l : List Oper} : ∀ (rest : List (Nat × Cls)) (env env' : Env) (σ : St), (∀ t, lk env t = lk env' t) → Run P l.toArray X Q rest env σ → (∀ e e' : Env, ∀ σ, (∀ t, lk e t = lk e' t) → Q e σ → Q e' σ) → Run P l.toArray X Q rest env' σ := by
    intro rest
    induction rest with
    | nil => exact fun env env' σ he h hq => hq env env' σ he h
    | cons x rest ih =>
      obtain ⟨i, c⟩ := x
      intro env env' σ he h hq
      obtain ⟨o, ho, h⟩ := h
      have hwe : wantD l.toArray env' o = wantD l.toArray env o := by
        unfold wantD
        split
        · rfl
        · split
          · rfl
          · rw [he]
      have hee : ev env' = ev env := by
        funext x
        cases x <;> simp [ev, he]
      have hput : ∀ d, ∀ t, lk (env.put o.dst d) t = lk (env'.put o.dst d) t := fun d t => by simp only [qiu, he]
      refine ⟨o, ho, ?_⟩
      rw [hwe, hee]
      rcases h with ⟨hw, h⟩ | ⟨hw, h⟩ | h
      · exact .inl ⟨hw, ih _ _ _ (hput _) h hq⟩
      rotate_left
      · obtain ⟨hw, e₀, d, τ, he₀, hx, h⟩ := h
        exact .inr (.inr ⟨hw, e₀, d, τ, fun t => (he₀ t).trans (he t), hx, h⟩)
      · refine .inr (.inl ⟨hw, ?_⟩)
        cases c with
        | d => obtain ⟨d, h1, h2⟩ := h; exact ⟨d, h1, ih _ _ _ (hput d) h2 hq⟩
        | r => obtain ⟨d, h1, h2⟩ := h; exact ⟨d, h1, ih _ _ _ (hput d) h2 hq⟩
        | w => obtain ⟨R, h1, h2⟩ := h; exact ⟨R, h1, fun d σ' hR => ih _ _ _ (hput d) (h2 d σ' hR) hq⟩
        | x => obtain ⟨R, h1, h2⟩ := h; exact ⟨R, h1, fun d σ' hR => ih _ _ _ (hput d) (h2 d σ' hR) hq⟩
theorem qlU {m : Md} {f : FuncId} {fn : Func} {K : Ctx} {R : D → St → Prop} {k : List Item} (e e' : Env) (σ : St) (h : ∀ t, lk e t = lk e' t) (hg : GoesG m P f fn K R k e σ) : GoesG m P f fn K R k e' σ :=
  qan e (fun t d ht => ⟨d, by rw [← h t]; exact ht, Wk.refl d⟩) hg
theorem qoW {m : Md} {f : FuncId} {fn : Func} {K : Ctx} {R : D → St → Prop} {k : List Item} (s : Nat) {b : Bool} (hs : lk env s = some (.bool b)) (h1 : b = true → Run P l.toArray X (GoesG m P f fn K R k) rest ((s, .bool true) :: env) σ) (h2 : b = false → Run P l.toArray X (GoesG m P f fn K R k) rest ((s, .bool false) :: env) σ) : Run P l.toArray X (GoesG m P f fn K R k) rest env σ := by
  have he : ∀ t, lk ((s, D.bool b) :: env) t = lk env t := fun t => by
    rw [qfA]
    split
    · rename_i h; subst h; exact hs.symm
    · rfl
  cases b with
  | true => exact qrb rest _ env σ he (h1 rfl) qlU
  | false => exact qrb rest _ env σ he (h2 rfl) qlU
theorem qo4 {m : Md} {f : FuncId} {fn : Func} {K : Ctx} {R : D → St → Prop} {k : List Item} (s : Nat) {b : Bool} (hs : lk env s = some (.bool b)) (h1 : b = true → GoesG m P f fn K R k ((s, .bool true) :: env) σ) (h2 : b = false → GoesG m P f fn K R k ((s, .bool false) :: env) σ) : GoesG m P f fn K R k env σ := by
  have he : ∀ t, lk ((s, D.bool b) :: env) t = lk env t := fun t => by
    rw [qfA]
    split
    · rename_i h; subst h; exact hs.symm
    · rfl
  cases b with
  | true => exact qlU _ env σ he (h1 rfl)
  | false => exact qlU _ env σ he (h2 rfl)
end
section
variable {P : Program} {o : Oper} {ρ : Operand → Option D} {d : D}
theorem qdd (h : ∀ (p : Addr → Prop) (a : Act) (w : World), (∀ x ∈ o.op.operands, ∀ d, ρ x = some d → Rep p w d (a.eval x)) → ∃ v, (execOp a.eval o).run P w = .ok (.value v) w ∧ Rep p w d v) : StepD P o ρ d := fun σ K p a w hi hx => by
  obtain ⟨v, h1, h2⟩ := h p a w hx
  unfold Oper.wp
  rw [h1]
  exact ⟨v, d, σ, p, rfl, ⟨rfl, rfl⟩, h2, hi, Grow.refl p w⟩
theorem qe {x : Operand} (ho : o.op = .move x) (hx : ρ x = some d) : StepD P o ρ d := qdd fun p a w h =>
  ⟨a.eval x, by unfold execOp; rw [ho]; rfl, h x (by rw [ho]; simp [Op.operands]) d hx⟩
theorem qj {x : Operand} (ho : o.op = .assign x) (hx : ρ x = some d) : StepD P o ρ d := qdd fun p a w h =>
  ⟨a.eval x, by unfold execOp; rw [ho]; rfl, h x (by rw [ho]; simp [Op.operands]) d hx⟩
theorem qsW {c x y : Operand} {b : Bool} (ho : o.op = .pick c x y) (hc : ρ c = some (.bool b)) (hx : b = true → ρ x = some d) (hy : b = false → ρ y = some d) : StepD P o ρ d := qdd fun p a w h => by
  have h1 := h c (by rw [ho]; simp [Op.operands]) _ hc
  simp only [Rep] at h1
  cases b with
  | true => exact ⟨a.eval x, by unfold execOp; rw [ho]; simp [h1, asBool], h x (by rw [ho]; simp [Op.operands]) d (hx rfl)⟩
  | false => exact ⟨a.eval y, by unfold execOp; rw [ho]; simp [h1, asBool], h y (by rw [ho]; simp [Op.operands]) d (hy rfl)⟩
theorem qP {c x y : Operand} (ho : o.op = .pick c x y) (hc : ρ c = some (.bool true)) (hx : ρ x = some d) : StepD P o ρ d := qsW ho hc (fun _ => hx) fun h => by cases h
theorem qG {c x y : Operand} (ho : o.op = .pick c x y) (hc : ρ c = some (.bool false)) (hx : ρ y = some d) : StepD P o ρ d := qsW ho hc (fun h => by cases h) fun _ => hx
theorem qfZ {x : Operand} {t : TypeId} {b : Bool} (ho : o.op = .unOp .not t x) (hx : ρ x = some (.bool b)) : StepD P o ρ (.bool (!b)) := qdd fun p a w h => by
  have h1 := h x (by rw [ho]; simp [Op.operands]) _ hx
  simp only [Rep] at h1
  exact ⟨.bool (!b), by unfold execOp; rw [ho]; simp [h1, Op.unary], by simp only [Rep]⟩
theorem qaz {x : Operand} {ix : Nat} {ds : List D} (ho : o.op = .extract x ix) (hx : ρ x = some (.tup ds)) (hd : ds[ix]? = some d) : StepD P o ρ d := qdd fun p a w h => by
  have h1 := h x (by rw [ho]; simp [Op.operands]) _ hx
  simp only [Rep] at h1
  obtain ⟨vs, h1, h2⟩ := h1
  obtain ⟨v, h3, h4⟩ := h2.at_ hd
  exact ⟨v, by unfold execOp; rw [ho]; simp [h1, Instr.extract, h3], h4⟩
/-! ### numbers and strings -/
def icmp : BinOp → Int → Int → Option Bool
  | .eql, x, y => some (x == y)
  | .neq, x, y => some (x != y)
  | .lss, x, y => some (decide (x < y))
  | .leq, x, y => some (decide (x ≤ y))
  | .gtr, x, y => some (decide (x > y))
  | .geq, x, y => some (decide (x ≥ y))
  | _, _, _ => none
theorem qX {op : BinOp} {t t' : TypeId} {x y : Operand} {k : IntKind} {m n : Int} {b : Bool} (ho : o.op = .binOp op t x y t') (hx : ρ x = some (.int k m)) (hy : ρ y = some (.int k n)) (hb : icmp op m n = some b) : StepD P o ρ (.bool b) := qdd fun p a w h => by
  have h1 := h x (by rw [ho]; simp [Op.operands]) _ hx
  have h2 := h y (by rw [ho]; simp [Op.operands]) _ hy
  simp only [Rep] at h1 h2
  refine ⟨.bool b, ?_, by simp only [Rep]⟩
  unfold execOp
  rw [ho]
  simp only [h1.1, h2.1]
  cases op <;> simp [icmp] at hb <;> subst hb <;> simp [binOp, eqGuard, Op.intCmp]
def iar : BinOp → Int → Int → Option Int
  | .add, x, y => some (x + y)
  | .sub, x, y => some (x - y)
  | .mul, x, y => some (x * y)
  | _, _, _ => none
theorem qkr (k : IntKind) (n : Int) : k.wrap (k.wrap n) = k.wrap n := by
  cases k <;> simp [IntKind.wrap, IntKind.bits, IntKind.signed] <;> split <;> split <;> omega
theorem qiF {op : BinOp} {t t' : TypeId} {x y : Operand} {k : IntKind} {m n r : Int} (ho : o.op = .binOp op t x y t') (hx : ρ x = some (.int k m)) (hy : ρ y = some (.int k n)) (hb : iar op m n = some r) : StepD P o ρ (.int k (k.wrap r)) := qdd fun p a w h => by
  have h1 := h x (by rw [ho]; simp [Op.operands]) _ hx
  have h2 := h y (by rw [ho]; simp [Op.operands]) _ hy
  simp only [Rep] at h1 h2
  refine ⟨.int k (k.wrap r), ?_, by simpa only [Rep, true_and] using qkr k r⟩
  unfold execOp
  rw [ho]
  simp only [h1.1, h2.1]
  cases op <;> simp [iar] at hb <;> subst hb <;> simp [binOp, eqGuard, Op.intArith]
theorem wrap64 {n : Int} (h : -9223372036854775808 ≤ n ∧ n < 9223372036854775808) : IntKind.i64.wrap n = n := by
  simp only [IntKind.wrap, IntKind.bits, IntKind.signed]
  simp
  split <;> omega
theorem qix {n : Int} (h : IntKind.i64.wrap n = n) : -9223372036854775808 ≤ n ∧ n < 9223372036854775808 := by
  simp only [IntKind.wrap, IntKind.bits, IntKind.signed] at h
  simp at h
  split at h <;> omega
theorem s_ar {op : BinOp} {t t' : TypeId} {x y : Operand} {m n r : Int} (ho : o.op = .binOp op t x y t') (hx : ρ x = some (.int .i64 m)) (hy : ρ y = some (.int .i64 n)) (hb : iar op m n = some r) (hr : -9223372036854775808 ≤ r ∧ r < 9223372036854775808) : StepD P o ρ (.int .i64 r) := by
  have := qiF (P := P) ho hx hy hb
  rw [wrap64 hr] at this
  exact this
def scmp : BinOp → ByteArray → ByteArray → Option Bool
  | .eql, x, y => some (x.toList == y.toList)
  | .neq, x, y => some (!(x.toList == y.toList))
  | .lss, x, y => some (Op.bytesLess x.toList y.toList)
  | .leq, x, y => some (Op.bytesLess x.toList y.toList || x.toList == y.toList)
  | .gtr, x, y => some (!(Op.bytesLess x.toList y.toList || x.toList == y.toList))
  | .geq, x, y => some (!Op.bytesLess x.toList y.toList)
  | _, _, _ => none
theorem qpy {op : BinOp} {t t' : TypeId} {x y : Operand} {m n : ByteArray} {b : Bool} (ho : o.op = .binOp op t x y t') (hx : ρ x = some (.str m)) (hy : ρ y = some (.str n)) (hb : scmp op m n = some b) : StepD P o ρ (.bool b) := qdd fun p a w h => by
  have h1 := h x (by rw [ho]; simp [Op.operands]) _ hx
  have h2 := h y (by rw [ho]; simp [Op.operands]) _ hy
  simp only [Rep] at h1 h2
  refine ⟨.bool b, ?_, by simp only [Rep]⟩
  unfold execOp
  rw [ho]
  simp only [h1.1, h2.1]
  cases op <;> simp only [scmp, Option.some.injEq, reduceCtorEq] at hb <;> subst hb <;> simp [binOp, eqGuard, Op.stringOp]
theorem qtM {x y : Operand} {t t' : TypeId} {m n : Bool} (ho : o.op = .binOp .eql t x y t') (ht : P.underlying t = some .bool) (hx : ρ x = some (.bool m)) (hy : ρ y = some (.bool n)) : StepD P o ρ (.bool (m == n)) := qdd fun p a w h => by
  have h1 := h x (by rw [ho]; simp [Op.operands]) _ hx
  have h2 := h y (by rw [ho]; simp [Op.operands]) _ hy
  simp only [Rep] at h1 h2
  refine ⟨.bool (m == n), ?_, by simp only [Rep]⟩
  unfold execOp
  rw [ho]
  have e1 : eqGuard .eql t x y (.bool m) (.bool n) = pure () := rfl
  have e2 : binOp .eql t (.bool m) (.bool n) = (do pure (.bool (← Op.equal t (.bool m) (.bool n)))) := rfl
  simp [h1, h2, e1, e2, run_equal_bool w t m n ht]
theorem qtG {x y : Operand} {t t' : TypeId} {m n : Bool} (ho : o.op = .binOp .neq t x y t') (ht : P.underlying t = some .bool) (hx : ρ x = some (.bool m)) (hy : ρ y = some (.bool n)) : StepD P o ρ (.bool (m != n)) := qdd fun p a w h => by
  have h1 := h x (by rw [ho]; simp [Op.operands]) _ hx
  have h2 := h y (by rw [ho]; simp [Op.operands]) _ hy
  simp only [Rep] at h1 h2
  refine ⟨.bool (m != n), ?_, by simp only [Rep]⟩
  unfold execOp
  rw [ho]
  have e1 : eqGuard .neq t x y (.bool m) (.bool n) = pure () := rfl
  have e2 : binOp .neq t (.bool m) (.bool n) = (do pure (.bool (!(← Op.equal t (.bool m) (.bool n))))) := rfl
  simp [h1, h2, e1, e2, run_equal_bool w t m n ht, bne]
/-! ### lists -/
inductive AsL : D → List D → Prop
  | lst (l : List D) : AsL (.lst l) l
  | full (l : List D) : AsL (.full l) l
  | own (u : Value) (l : List D) : AsL (.own u l) l
theorem AsL.rep {d : D} {l : List D} {p : Addr → Prop} {w : World} {v : Value} (h : AsL d l) (hv : Rep p w d v) : ∃ A c xs, v = .slice A l.length c ∧ l.length ≤ c ∧ c ≤ 9223372036854775807 ∧ RdP p w A xs ∧ Reps p w l xs ∧ ∀ u ∈ xs, u.oneCell' = true := by
  cases h with
  | lst => simpa only [Rep] using hv
  | full => simp only [Rep] at hv; obtain ⟨A, xs, h1, h2, h3⟩ := hv; exact ⟨A, _, xs, h1, Nat.le_refl _, h2, h3⟩
  | own => simp only [Rep] at hv; obtain ⟨rfl, hv⟩ := hv; exact hv
def asL : D → Option (List D)
  | .lst l => some l
  | .full l => some l
  | .own _ l => some l
  | _ => none
theorem asl {d : D} {l : List D} (h : asL d = some l) : AsL d l := by
  cases d <;> simp only [asL, Option.some.injEq, reduceCtorEq] at h <;> subst h <;> constructor
theorem que {x : Operand} {t e : TypeId} {dx : D} {l : List D} (ho : o.op = .call { callee := .builtin .len, args := #[x], argTypes := #[t] }) (ht : P.underlying t = some (.slice e)) (hx : ρ x = some dx) (hl : AsL dx l) : StepD P o ρ (.int .i64 (l.length : Int)) := qdd fun p a w h => by
  obtain ⟨A, c, xs, h1, h2, h3, _⟩ := hl.rep (h x (by rw [ho]; simp [Op.operands, Call.operands]) _ hx)
  refine ⟨.int .i64 (l.length : Int), ?_, by simpa only [Rep, true_and] using wrap64 (by omega)⟩
  unfold execOp
  rw [ho]
  simp [resolve, invoke, builtin, h1, Builtin.len_, run_underlying ht, goInt]
theorem qtT {x : Operand} {t : TypeId} {s : ByteArray} (ho : o.op = .call { callee := .builtin .len, args := #[x], argTypes := #[t] }) (ht : P.underlying t = some .string) (hx : ρ x = some (.str s)) : StepD P o ρ (.int .i64 (s.size : Int)) := qdd fun p a w h => by
  have h1 := h x (by rw [ho]; simp [Op.operands, Call.operands]) _ hx
  simp only [Rep] at h1
  refine ⟨.int .i64 (s.size : Int), ?_, by simpa only [Rep, true_and] using wrap64 (by omega)⟩
  unfold execOp
  rw [ho]
  simp [resolve, invoke, builtin, h1.1, Builtin.len_, run_underlying ht, goInt]
theorem qs3 {t e : TypeId} {x ix : Operand} {dx : D} {l : List D} {k : IntKind} {n : Int} {j s : Nat} (ho : o.op = .indexAddr t x ix) (ht : P.underlying t = some (.slice e)) (hs : (P.info? e).map (·.size) = some s) (hs0 : 0 < s) (hx : ρ x = some dx) (hl : AsL dx l) (hix : ρ ix = some (.int k n)) (hn : n = (j : Int)) (hd : l[j]? = some d) (hall : AllSz s l) (hp : d.plain = true) : StepD P o ρ (.ptr d) := qdd fun p a w h => by
  obtain ⟨A, c, xs, h1, h2, h3, h4, h5, h6⟩ := hl.rep (h x (by rw [ho]; simp [Op.operands]) _ hx)
  have h7 := h ix (by rw [ho]; simp [Op.operands]) _ hix
  simp only [Rep] at h7
  subst hn
  have hj := (List.getElem?_eq_some_iff.1 hd).1
  obtain ⟨v, hv, hcell⟩ := h5.at_cell hd
  obtain ⟨i, hi, hin⟩ := Option.map_eq_some_iff.1 hs
  have hsz := Rep.sz hv
  rw [(hall.take j).szs] at hcell
  have hmin : (l.take j).length = j := by simp; omega
  rw [hmin] at hcell
  have hlen : xs.length = l.length * s := by rw [h5.len, hall.szs]
  rcases h4 with h4 | ⟨b, o', rfl, hc⟩
  · exfalso
    have : 0 < l.length * s := Nat.mul_pos (by omega) hs0
    rw [h4] at hlen
    simp at hlen
    omega
  · refine ⟨.pointer (some ⟨b, o' + j * s, none⟩), ?_, ?_⟩
    · unfold execOp
      rw [ho]
      have hlt : ((j : Int) < (l.length : Int)) := by omega
      simp [h1, h7.1, Instr.indexAt, asIntOf, run_underlying ht, sizeOf, typeInfo, hi, hin, hj, addF]
    · simp only [Rep]
      refine ⟨b, o' + j * s, v, rfl, .inr ⟨b, o' + j * s, rfl, fun m u hu => ?_⟩, hv, Rep.one hv hp⟩
      have := hc _ _ (hcell m u hu)
      rw [← Nat.add_assoc] at this
      exact this
end
end Go.Proofs.YtdoljfkjdfaakaaGreat
