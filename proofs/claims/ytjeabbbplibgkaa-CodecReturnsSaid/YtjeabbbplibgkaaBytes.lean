/-
  The walk's laws on slices of bytes that the call owns, at this program's own types: make, append of a slice, of one byte, of a string.
-/
import Derived.Test.YtjeabbbplibgkaaEnc
namespace Go.Proofs.Ytjeabbbplibgkaa
open Go.RowKit

theorem u8_info : (Try.prog.info? 5).map (fun i => (i.zero, i.size, i.bytes)) = some (some (.int .u8 0), 1, 1) := by kernel_rfl
theorem one_u8 (n : Int) : ∀ u ∈ #[Value.int .u8 n].toList, u.oneCell' = true := by
  intro u hu; simp at hu; subst hu; rfl

section
variable {w : World} (W : World) {ops : Array Oper} {rest : List Oper} {o : Oper} {a : Act} {Q : Exit → Act → World → Prop}

/-- make([]byte, 0, n). -/
theorem mkB (hg : Region.wanted o (yielded ops a.tmps) = true) (l c : Operand) (hop : o.op = Op.makeSlice 22 l c) (hE : Ext W w)
    (C : Int) (n : Nat) (hl : a.eval l = .int .i64 0) (hc : a.eval c = .int .i64 C) (hC : C = (n : Int)) (hn : n ≤ 281474976710656)
    (hK : ∀ A' w', w'.ownsRow W.heap.size 5 1 (.slice A' 0 n) 0 [] → Ext W w' → wpList Try.prog ops Q rest (a.put o.dst (.slice A' 0 n)) w') : wpList Try.prog ops Q (o :: rest) a w :=
  wpList_makeE W hg l c _ hop _ _ _ _ Try.underlying22 u8_info hE .i64 .i64 C n hl hc hC (by omega) (by omega) hK

/-- append(s, x...), s of the call's own, x a slice that reads news. -/
theorem appB (hgd : Region.wanted o (yielded ops a.tmps) = true) (s x : Operand) (ho : o.op = .call { callee := .builtin .append, args := #[s, x], argTypes := #[22, 22] })
    (hE : Ext W w) (v : Value) (n : Nat) (xs : List Value) (hs : a.eval s = v) (hown : w.ownsRow W.heap.size 5 1 v n xs)
    (A : Option Addr) (m c : Nat) (news : List Value) (hx : a.eval x = .slice A m c) (hr : Rd w A news) (hm : news.length = m) (h1 : ∀ u ∈ news, u.oneCell' = true) (hb : n + m ≤ 140737488355328)
    (h : ∀ A' c' w', w'.ownsRow W.heap.size 5 1 (.slice A' (n + m) c') (n + m) (xs ++ news) → Ext W w' → wpList Try.prog ops Q rest (a.put o.dst (.slice A' (n + m) c')) w') : wpList Try.prog ops Q (o :: rest) a w :=
  wpList_appE W hgd s x _ ho _ _ 1 1 Try.underlying22 u8_info rfl (by omega) hE v n xs hs hown A m c news hx hr (by omega) h1 (by omega) (by omega) h

/-- append(s, x...), x a string. -/
theorem appS (hgd : Region.wanted o (yielded ops a.tmps) = true) (s x : Operand) (ho : o.op = .call { callee := .builtin .append, args := #[s, x], argTypes := #[22, 9] })
    (hE : Ext W w) (v : Value) (n : Nat) (xs : List Value) (hs : a.eval s = v) (hown : w.ownsRow W.heap.size 5 1 v n xs)
    (t : ByteArray) (hx : a.eval x = .string t) (hb : n + t.size ≤ 140737488355328)
    (h : ∀ A' c' w', w'.ownsRow W.heap.size 5 1 (.slice A' (n + t.size) c') (n + t.size) (xs ++ t.data.toList.map bv) → Ext W w' → wpList Try.prog ops Q rest (a.put o.dst (.slice A' (n + t.size) c')) w') : wpList Try.prog ops Q (o :: rest) a w := by
  obtain ⟨i, hi, hz, hsize, hby⟩ := info_parts u8_info
  refine wpList_want hgd fun K hK => ?_
  obtain ⟨v', w', hrun, h2, h3, _⟩ := Lib.run_append_own_string (P := Try.prog) w W.heap.size _ _ o.type _ i Try.underlying22 Try.underlying9 hi hz hsize hby v n xs hown t (by unfold maxLen; omega) hb hE.size
  obtain ⟨A', c', rfl⟩ := own_slice h2
  unfold Oper.wp execOp
  simp only [ho, resolve, invoke, builtin, Sem.run_bind, Sem.run_pure, Result.andThen_ok, List.map_toArray, List.map_cons, List.map_nil, hs, hx, hrun]
  exact hK _ _ (h A' c' w' h2 (hE.gr hown (Nat.le_refl _) h3))
end
end Go.Proofs.Ytjeabbbplibgkaa
