/-
  term.each: its contract as an iterator.
-/
import Derived.Test.YtcjbageaiafbmaaWalk
namespace Go.Proofs.Ytcjbageaiafbmaa
open Go.RowKit Go.Shelf
attribute [local go_sem] Oper.semAt_some

theorem lives {β : Type} {B : Nat} {J : β → World → Prop} (h : AbidesFrom B J) : ∀ (s : β) (W W' : World), J s W → Ext W W' → J s W' := fun s W W' hs e =>
  h s W W' none hs ⟨e.os, e.tape, e.output, e.size, fun k hk _ => e.block k hk⟩ (fun r e => by cases e)
theorem RoundIn.anyD {F : Fence} (hd : F.depth = none) {m m' : Nat} {P : Program} {l : Nat} {f : FuncId} {tmps : Array Value} {assign body : Code} {w : World} {R : Ending → World → Prop}
    (h : RoundIn F m P l f tmps assign body w R) : RoundIn F m' P l f tmps assign body w R := ⟨h.1, fun c cs _ => h.2 c cs (fun d h => by rw [hd] at h; cases h)⟩
theorem YieldAt.anyD {F : Fence} (hd : F.depth = none) {m : Nat} (m' : Nat) {P : Program} {l : Nat} {args : Array Value} {W : World} {R : Ending → World → Prop} (h : YieldAt F m P l args W R) : YieldAt F m' P l args W R := by
  obtain ⟨fn, tmps, assign, body, hy, hR⟩ := h
  exact ⟨fn, tmps, assign, body, hy, RoundIn.anyD hd hR⟩

def EachRel (W0 : World) (J : List Int → World → Prop) (l : List T) (v6 : Value) (wr : World) : Prop :=
  ∃ k : Nat, v6 = .int .i64 (k : Int) ∧ k ≤ l.length ∧ Ext W0 wr ∧ J (occL (l.take k)) wr

theorem each1_any (d : Nat) (hd : d ≤ 1000000) (W0 : World) (l : Nat) (J Jx : List Int → World → Prop) (hJ : Lives J) (ts : List T) (sv : Value) (Bt n : Nat) (hn : wtL ts ≤ d) (hY : Round W0 l (occL ts).length J Jx)
    (W : World) (hs : SlT W0 ts sv) (hb : W0.cell? ⟨Bt, 0, none⟩ = some sv) (he : Ext W0 W) (h0 : J [] W) :
    CallsIn Fence.wide n Try.prog 77 #[.func (.yield l) #[] #[], .pointer (some ⟨Bt, 0, none⟩)] W fun e W' => (∃ v, e = .returned v) ∧
      ((∃ ys, ys = occL ts ∧ J ys W') ∨ (∃ pre, pre <+: occL ts ∧ Jx pre W')) := by
  have hsl := hide hs
  have hb0 := hide hb
  have HM : Hid (∀ u, u ∈ ts → wt u ≤ d) := Lib.hid (fun u hu => by have := wt_mem hu; omega)
  have hll : ts.length ≤ d := by have := len_wtL ts; omega
  have IH := Lib.hid (walk_any W0 l (occL ts).length J Jx hJ hY d hd)
  obtain ⟨A2, c2, xs, rfl, -⟩ := hs
  have hbW := he.cellOf hb
  clear hb hn hY
  refine callsIn_of_wp Try.func77 rfl trivial ?_ rfl
  simp only [Try.ntmps77, List.size_toArray, List.length_cons, List.length_nil, Nat.reduceAdd, Nat.reduceSub, Array.replicate_succ, Array.replicate_zero, List.push_toArray, List.append_toArray, List.nil_append, List.cons_append]
  gi_wp2
  gi_loopw [3, 6] (fun _ v6 wr => EachRel W0 J ts v6 wr) (fun _ v6 _ => ts.length - (intOf v6).toNat)
  case atStart => exact ⟨0, rfl, by omega, he, by simpa [occL] using h0⟩
  case round =>
    obtain ⟨k, rfl, hk2, hE, hJk⟩ := hrel
    have hbr := hE.cellOf (unhide hb0)
    by_cases hlt : k < ts.length
    · obtain ⟨u, hu⟩ : ∃ u, ts[k]? = some u := ⟨ts[k], List.getElem?_eq_getElem hlt⟩
      obtain ⟨b, o, sl, rfl, e0, e1, e2, e3, hs, hvt⟩ := (unhide hsl).at_ hu
      have c0 := hE.cellOf e0
      have c1 := hE.cellOf e1
      have c2 := hE.cellOf e2
      have c3 := hE.cellOf e3
      clear e0 e1 e2 e3
      have hvt := hide hvt
      obtain ⟨A3, d3, xs3, rfl, -⟩ := hs
      have HT := Lib.hid (show occL (ts.take (k + 1)) = occL (ts.take k) ++ occT u by rw [take_snocT hu, occL_app]; simp [occL])
      have HU : Hid (wt u ≤ d) := Lib.hid (HM.out u (List.mem_of_getElem? hu))
      have HA : Hid (occL ts = occL (ts.take k) ++ (occT u ++ occL (ts.drop (k + 1)))) := Lib.hid (by
        have h2 : occL ts = occL (ts.take (k + 1)) ++ occL (ts.drop (k + 1)) := by rw [← occL_app, List.take_append_drop]
        rw [h2, HT.out, List.append_assoc])
      have HL : Hid ((occL (ts.take k)).length + (occT u).length ≤ (occL ts).length) := Lib.hid (by rw [HA.out]; simp only [List.length_append]; omega)
      clear hu
      gi_wp2_with fail
      refine ⟨trivial, fun h => (by cases h), (IH.out (n - 1) u _ (occL (ts.take k)) _ HU.out (unhide hvt) hE hJk HL.out).mono ?_⟩
      rintro e w2 (⟨rfl, hJ2, he2⟩ | ⟨rfl, q, hq, hx⟩)
      · have hJ3 : J (occL (ts.take (k + 1))) w2 := by rw [HT.out]; exact hJ2
        clear hJ2
        gi_wp2
        go_roundw
        case rel => exact ⟨k + 1, by go_num, by omega, he2, hJ3⟩
        case measure => simp [intOf]; omega
      · have hq2 : occL (ts.take k) ++ q <+: occL ts := by
          rw [HA.out]
          exact List.prefix_append_right_inj _ |>.2 (hq.trans (List.prefix_append _ _))
        gi_wp2
        refine bodyPost_ret (results_none rfl _ _ _) rfl ?_
        exact ⟨⟨_, rfl⟩, .inr ⟨_, hq2, hx⟩⟩
    · have hJ3 : J (occL ts) wr := by rw [List.take_of_length_le (by omega)] at hJk; exact hJk
      gi_wp2
      go_end0
      exact ⟨⟨_, rfl⟩, .inl ⟨_, rfl, hJ3⟩⟩

theorem each_any (v : Value) (w : World) (A : Option Addr) (m c : Nat) (hv : v = .slice A m c) : Calls Try.prog 62 #[v] w fun e w' => e = .returned (.func (.func 77) #[] #[.pointer (some ⟨w.heap.size, 0, none⟩)]) ∧ w' = w.alloc (.cells #[v] 22) := by
  subst hv
  go_enter Try.func62, Try.ntmps62
  go_wp2
  go_ret
  exact ⟨rfl, rfl⟩

/-- each(ts) hands back an iterator over the places of variables in ts. -/
theorem each_stops (d : Nat) (hd : d ≤ 1000000) (n : Nat) (Bt : Nat) (ts : List T) (sv : Value) (w : World) (hn : wtL ts ≤ d) (hc : w.cell? ⟨Bt, 0, none⟩ = some sv) (hs : SlT w ts sv) :
    SeqStopsK Fence.wide n Try.prog 77 #[.pointer (some ⟨Bt, 0, none⟩)] (fun x : Int => #[Value.int .i64 x]) (Below w.heap.size) (fun ys => ys = occL ts) (fun pre => pre <+: occL ts) (occL ts).length w := fun l J Jx W hW hJ _ hY h0 =>
  each1_any d hd w l J Jx (lives hJ) ts sv Bt n hn (fun m pre x W1 _ hj he1 hl => YieldAt.anyD rfl m ((hY pre x W1 hj hl).mono fun e W' h => h.elim (fun ⟨a, b, c⟩ => .inl ⟨a, b, he1.trans c⟩) .inr)) W hs hc hW h0

/-- An int that is within its range. -/
abbrev I64s := { x : Int // I64 x }
def valS (l : List I64s) : List Int := l.map (·.1)
theorem valS_snoc (l : List I64s) (x : I64s) : valS (l ++ [x]) = valS l ++ [x.1] := List.map_append ..
theorem valS_len (l : List I64s) : (valS l).length = l.length := List.length_map ..
/-- The same for a caller that wants to know that each number is within its range. -/
theorem each_stopsS (d : Nat) (hd : d ≤ 1000000) (n : Nat) (Bt : Nat) (ts : List T) (sv : Value) (w : World) (hn : wtL ts ≤ d) (hc : w.cell? ⟨Bt, 0, none⟩ = some sv) (hs : SlT w ts sv) :
    SeqStopsK Fence.wide n Try.prog 77 #[.pointer (some ⟨Bt, 0, none⟩)] (fun x : I64s => #[Value.int .i64 x.1]) (Below w.heap.size) (fun ys => valS ys = occL ts) (fun pre => valS pre <+: occL ts) (occL ts).length w := fun l J Jx W hW hJ _ hY h0 => by
  refine (each1_any d hd w l (fun xs W => ∃ m : List I64s, valS m = xs ∧ J m W) (fun xs W => ∃ m : List I64s, valS m = xs ∧ Jx m W) (fun s W W' ⟨m, hm, hs⟩ e => ⟨m, hm, lives hJ _ _ _ hs e⟩) ts sv Bt n hn ?_ W hs hc hW ⟨[], rfl, h0⟩).mono ?_
  · rintro m pre x W1 hx ⟨q, rfl, hj⟩ he1 hl
    refine YieldAt.anyD rfl m ((hY q ⟨x, hx⟩ W1 hj (by rwa [valS_len] at hl)).mono fun e W' h => h.elim (fun ⟨a, b, c⟩ => .inl ⟨a, ⟨_, valS_snoc _ _, b⟩, he1.trans c⟩) fun ⟨a, b⟩ => .inr ⟨a, ⟨_, valS_snoc _ _, b⟩⟩)
  · rintro e W' ⟨hv, ⟨ys, h1, m, h2, h3⟩ | ⟨pre, h1, m, h2, h3⟩⟩
    · exact ⟨hv, .inl ⟨m, h2.trans h1, h3⟩⟩
    · exact ⟨hv, .inr ⟨m, (by subst h2; exact h1 : valS m <+: occL ts), h3⟩⟩
end Go.Proofs.Ytcjbageaiafbmaa
