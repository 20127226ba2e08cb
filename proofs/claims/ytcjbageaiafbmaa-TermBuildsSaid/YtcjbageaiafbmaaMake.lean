/-
  The walks of Int, Var and Fun.
-/
import Derived.Test.YtcjbageaiafbmaaTerm
namespace Go.Proofs.Ytcjbageaiafbmaa
open Go.RowKit

/-- A term by value. -/
def IsT (t : T) (v : Value) (w : World) : Prop := VT w t v

theorem int_any (i : Int) (hi : I64 i) (w : World) : Calls Try.prog 51 #[.int .i64 i] w (Ret w (IsT (.mk 0 i ⟨#[]⟩ []))) := by
  have hi := hide hi
  go_enter Try.func51, Try.ntmps51
  go_wp2
  refine bodyPost_ret (v := .agg #[.int .i64 0, .int .i64 i, .string ⟨#[]⟩, .slice none 0 0]) (by simp [results, Try.f51, go_sem]) rfl ?_
  exact Ret.mk (VT.mk ⟨none, 0, [], rfl, by simp, by omega, Rd.nil _ _, CL.nil _⟩ (by unfold I64; omega) (unhide hi) (Nat.zero_le _)) ((Ext.rfl' w).al _)
theorem var_any (i : Int) (hi : I64 i) (w : World) : Calls Try.prog 50 #[.int .i64 i] w (Ret w (IsT (.mk 1 i ⟨#[]⟩ []))) := by
  have hi := hide hi
  go_enter Try.func50, Try.ntmps50
  go_wp2
  refine bodyPost_ret (v := .agg #[.int .i64 1, .int .i64 i, .string ⟨#[]⟩, .slice none 0 0]) (by simp [results, Try.f50, go_sem]) rfl ?_
  exact Ret.mk (VT.mk ⟨none, 0, [], rfl, by simp, by omega, Rd.nil _ _, CL.nil _⟩ (by unfold I64; omega) (unhide hi) (Nat.zero_le _)) ((Ext.rfl' w).al _)
theorem fun_any (s : ByteArray) (ts : List T) (v : Value) (hs : Hid (s.size ≤ 9223372036854775807)) (w : World) (hv : SlT w ts v) : Calls Try.prog 18 #[.string s, v] w (Ret w (IsT (.mk 2 0 s ts))) := by
  have hv' := hide hv
  obtain ⟨A, c, xs, rfl, -⟩ := hv
  go_enter Try.func18, Try.ntmps18
  go_wp2
  refine bodyPost_ret (v := .agg #[.int .i64 2, .int .i64 0, .string s, .slice A ts.length c]) (by simp [results, Try.f18, go_sem]) rfl ?_
  exact Ret.mk (VT.mk (SlT.ext (unhide hv') ((Ext.rfl' w).al _)) (by unfold I64; omega) (by unfold I64; omega) hs.out) ((Ext.rfl' w).al _)
end Go.Proofs.Ytcjbageaiafbmaa
