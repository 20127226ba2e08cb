/-
  Texts of the seat, merged.
-/
import Derived.Test.YthcgefbigimgoaaLAA
import Derived.Test.YthcgefbigimgoaaLAB
import Derived.Test.YthcgefbigimgoaaLAC
import Derived.Test.YthcgefbigimgoaaLAD
import Derived.Test.YthcgefbigimgoaaLAE
import Derived.Test.YthcgefbigimgoaaLAF
import Derived.Test.YthcgefbigimgoaaLAG
import Derived.Test.YthcgefbigimgoaaLAH
import Derived.Test.YthcgefbigimgoaaLAI
import Derived.Test.YthcgefbigimgoaaChecked
import Derived.WalkKit
import Derived.Lib.Hide
import Derived.Lib.AppendStr
import Derived.Deep.AppendLies
import Derived.Deep.AppendSrc
import Derived.Deep.Draws
import Derived.Deep.QuietTactic
import Derived.BigQuiet
import Derived.Deep.RegionWith
import Derived.Maps.AppendAt
import Derived.WalkSpells
import Derived.Orders
import Derived.Deep.Slices
import Derived.Deep.Fields
import Derived.ChangeArms
import Derived.Lib.OthersKept
import Derived.Lib.TrimU
import Derived.Lib.IndexAny
import Derived.Deep.LoopGhost
import Derived.Lib.Bytealg
import Derived.RangeFuncBox
import Derived.RangeFuncNested
import Derived.RangeFuncBound
import Derived.RangeFuncCalls
import Derived.RangeFuncLeaves
import Derived.Shelf.Abstract
import Derived.OwnWalkIn
import Derived.TacticsInMore
import Derived.LoopNIn
import Derived.LoopIn
import Derived.RangeFuncWrites
import Derived.Maps.OwnIn
import Derived.Maps.Views
import Derived.Laws.OwnMore
import Derived.Maps.OwnSet
import Derived.Test.YthcgefbigimgoaaRows
import Derived.ProofKit
import Derived.OpenShut
import Derived.Carry
import Derived.Great.BuildSlice
import Derived.ArgAppend
import Derived.Laws.MakeOwn
import Derived.Laws.Cover3
import Derived.Laws.CopyRow
import Derived.MapKept
import Derived.Maps.RangeRun
import Derived.ChangeSlices
import Derived.JoinedCond
set_option linter.unusedVariables false
set_option linter.unusedSimpArgs false
set_option linter.unnecessarySimpa false
set_option linter.all false

namespace Go.Proofs.Ythcgefbigimgoaa
set_option maxRecDepth 100000
open Go.ChangeShapes Go.WideShapes Go.ChangeAt Go.RowKit

mutual
/-- How many values and letters data hold. -/
def bulkD : D → Nat
  | .str s => s.size + 1
  | .agg l => bulkDs l + 1
  | .lst l => bulkDs l + 1
  | _ => 1
def bulkDs : List D → Nat
  | [] => 0
  | d :: l => bulkD d + bulkDs l
end
/-- A datum of a type, opened, with its bulk; fuel below N. -/
def OpB (N : Nat) (t : TypeId) (n : Nat) (S : D → Prop) : Prop := ∀ (H : Type) (enc : TypeId × Value → H) (W : World) (base : Nat) (sp : Nat → Bool) (hd : Bool) (fuel : Nat) (cs : List Value) (x : DataW H × List MemPlace), fuel < N →
  DataW.trod enc Try.prog W base sp hd fuel t cs = some x → ∃ d v, S d ∧ d.plain = true ∧ sz d = n ∧ Rep (live W) W d v ∧ cs = v.cells.toList ∧ bulkD d ≤ Rows.uptoBulk x.1
theorem OpB.to {N : Nat} {t : TypeId} {n : Nat} {S S' : D → Prop} (h : OpB N t n S) (k : ∀ d, S d → S' d) : OpB N t n S' := fun H enc W base sp hd fuel cs x hN hx => by
  obtain ⟨d, v, h1, h2⟩ := h H enc W base sp hd fuel cs x hN hx
  exact ⟨d, v, k d h1, h2⟩
theorem OpB.less {N M : Nat} {t : TypeId} {n : Nat} {S : D → Prop} (h : OpB N t n S) (hM : M ≤ N) : OpB M t n S := fun H enc W base sp hd fuel cs x hN hx => h H enc W base sp hd fuel cs x (by omega) hx
theorem ub_pos {H : Type} (d : DataW H) : 1 ≤ Rows.uptoBulk d := by
  cases d with
  | lit l => cases l <;> simp [Rows.uptoBulk]
  | nil => simp [Rows.uptoBulk]
  | ptr d => simp [Rows.uptoBulk]
  | slice elems spare => simp [Rows.uptoBulk]
  | agg parts => simp [Rows.uptoBulk]
  | iface t d => simp [Rows.uptoBulk]
  | map entries => simp [Rows.uptoBulk]
  | held h => simp [Rows.uptoBulk]
theorem opb_i64 {N : Nat} {t : TypeId} (ht : (Try.prog).underlying t = some (.int .i64)) : OpB N t 1 fun d => ∃ n, d = .int .i64 n := fun H enc W base sp hd fuel cs x _ hx => by
  obtain ⟨d, v, ⟨n, rfl⟩, h2, h3, h4, h5⟩ := op_i64 ht H enc W base sp hd fuel cs x hx
  exact ⟨_, v, ⟨n, rfl⟩, h2, h3, h4, h5, by simp only [bulkD]; exact ub_pos _⟩
theorem opb_str {N : Nat} {t : TypeId} (ht : (Try.prog).underlying t = some .string) : OpB N t 1 fun d => ∃ s, d = .str s := fun H enc W base sp hd fuel cs x _ hx => by
  obtain ⟨s, rfl, hxe, w0⟩ := DataW.trod_string ht hx
  refine ⟨.str s, .string s, ⟨s, rfl⟩, rfl, rfl, ?_, by simp [Value.cells], ?_⟩
  · simp only [Rep]
    exact ⟨trivial, by unfold maxLen at w0; omega⟩
  · rw [hxe]
    simp only [bulkD, Rows.uptoBulk]
    exact Nat.le_refl _
def OpsB (N : Nat) : List Field → List (D → Prop) → Prop
  | [], [] => True
  | f :: fs, S :: ss => OpB N f.type ((Try.prog).cellsOf f.type) S ∧ OpsB N fs ss
  | _, _ => False
theorem fields_openB {H : Type} {enc : TypeId × Value → H} {W : World} {base : Nat} {sp : Nat → Bool} {hd : Bool} {N n : Nat} (hn : n < N) {cs : List Value} :
    ∀ (fs : List Field) (ss : List (D → Prop)) (o : Nat) (xs : List (DataW H × List MemPlace)), OpsB N fs ss → tight Try.prog o fs = true → o + total Try.prog fs = cs.length → xs.length = fs.length →
      (∀ (i : Nat) (f : Field), fs[i]? = some f → DataW.trod enc Try.prog W base sp hd n f.type ((cs.drop f.offset).take ((Try.prog).cellsOf f.type)) = xs[i]?) →
      ∃ ds, Fits ss ds ∧ (∀ d ∈ ds, d.plain = true) ∧ szs ds = total Try.prog fs ∧ Reps (live W) W ds (cs.drop o) ∧ bulkDs ds ≤ Rows.uptoBulkAll (xs.map (·.1))
  | [], [], o, xs, _, _, hl, _, _ => ⟨[], trivial, by simp, rfl, by simp only [total] at hl; rw [List.drop_eq_nil_of_le (by omega)]; exact Reps.nil _ _, by simp [bulkDs]⟩
  | f :: fs, S :: ss, o, x :: xs, hop, ht, hl, hlen, hx => by
    simp only [tight, Bool.and_eq_true, beq_iff_eq] at ht
    simp only [total] at hl
    obtain ⟨ds, h1, h2, h3, h4, h5⟩ := fields_openB hn fs ss (o + (Try.prog).cellsOf f.type) xs hop.2 ht.2 (by omega) (by simpa using hlen) fun i g hg => hx (i + 1) g hg
    have h6 := hx 0 f rfl
    rw [ht.1] at h6
    obtain ⟨d, v, g1, g2, g3, g4, g5, g6⟩ := hop.1 H enc W base sp hd n _ x hn h6
    refine ⟨d :: ds, ⟨g1, h1⟩, ?_, by simp only [szs, total, g3, h3], ?_, ?_⟩
    · intro e he
      rcases List.mem_cons.1 he with rfl | he
      · exact g2
      · exact h2 e he
    · have := Reps.cons g4 h4
      rw [← g5, ← List.drop_drop, List.take_append_drop] at this
      exact this
    · simp only [bulkDs, List.map_cons, Rows.uptoBulkAll]
      omega
  | _ :: _, _ :: _, _, [], _, _, _, h, _ => by simp at h
  | [], _ :: _, _, _, h, _, _, _, _ => h.elim
  | _ :: _, [], _, _, h, _, _, _, _ => h.elim
theorem opb_struct {N : Nat} {t : TypeId} {fs : Array Field} {n : Nat} (ht : (Try.prog).underlying t = some (.struct fs)) (ss : List (D → Prop)) (hs : OpsB N fs.toList ss) (h1 : tight Try.prog 0 fs.toList = true) (h2 : total Try.prog fs.toList = n) (h3 : (Try.prog).cellsOf t = n) :
    OpB (N + 1) t n fun d => ∃ ds, d = .agg ds ∧ Fits ss ds := fun H enc W base sp hd fuel cs x hN hx => by
  obtain ⟨xs, m, hm, hxe, hl, hlen, hf⟩ := DataW.trod_struct ht hx
  obtain ⟨ds, g1, g2, g3, g4, g5⟩ := fields_openB (enc := enc) (W := W) (base := base) (sp := sp) (hd := hd) (N := N) (n := m) (by omega) (cs := cs) fs.toList ss 0 xs hs h1 (by omega) (by simpa using hlen) fun i f hi => hf i f (by simpa using hi)
  refine ⟨.agg ds, .agg cs.toArray, ⟨ds, rfl, g1⟩, rfl, by simp only [sz]; omega, ?_, by simp [Value.cells], ?_⟩
  · simp only [Rep]
    rw [List.drop_zero] at g4
    exact ⟨cs, rfl, g4, reps_ones g4 g2⟩
  · rw [hxe]
    simp only [bulkD, Rows.uptoBulk]
    omega
theorem collectB {n : Nat} {hn : 0 < n} {S : D → Prop} {w : World} {ad : Addr} (Q : Nat → D → Prop) : ∀ (len : Nat), (∀ i, i < len → ∃ a cs, Q i a ∧ (layD n hn S).C w a cs ∧ ∀ j, j < n → w.cell? (ad.add (i * n + j)) = cs[j]?) → ∃ l xs, l.length = len ∧ (∀ i d, l[i]? = some d → Q i d) ∧ (layD n hn S).Ls w l xs ∧ ∀ j u, xs[j]? = some u → w.cell? (ad.add j) = some u
  | 0, _ => ⟨[], [], rfl, by simp, Lay.Ls.nil w, by simp⟩
  | len + 1, h => by
    obtain ⟨l, xs, h1, h0, h2, h3⟩ := collectB (hn := hn) (S := S) (w := w) (ad := ad) Q len fun i hi => h i (by omega)
    obtain ⟨a, cs, h7, h4, h5⟩ := h len (by omega)
    refine ⟨l ++ [a], xs ++ cs, by simp [h1], fun i d hd => ?_, Lay.Ls.app h2 (Lay.Ls.single h4), fun j u hu => ?_⟩
    · by_cases hi : i < l.length
      · rw [List.getElem?_append_left hi] at hd
        exact h0 i d hd
      · rw [List.getElem?_append_right (by omega)] at hd
        have hlt := (List.getElem?_eq_some_iff.1 hd).1
        simp at hlt
        have hi' : i = len := by omega
        subst hi'
        rw [h1, Nat.sub_self] at hd
        injection hd with hd
        subst hd
        exact h7
    · have hx := Lay.Ls.len h2
      have hx : xs.length = l.length * n := hx
      by_cases hj : j < xs.length
      · rw [List.getElem?_append_left hj] at hu
        exact h3 j u hu
      · rw [List.getElem?_append_right (by omega)] at hu
        have hlt := (List.getElem?_eq_some_iff.1 hu).1
        rw [(layD n hn S).len h4] at hlt
        have h6 := h5 (j - xs.length) hlt
        rw [hu] at h6
        rw [← h6, hx, h1]
        rw [hx, h1] at hj
        congr 2
        omega
theorem bulk_sum {H : Type} : ∀ (l : List D) (es : List (DataW H)), l.length = es.length → (∀ (i : Nat) (d : D), l[i]? = some d → ∃ e : DataW H, es[i]? = some e ∧ bulkD d ≤ Rows.uptoBulk e) → bulkDs l ≤ Rows.uptoBulkAll es
  | [], es, _, _ => by simp [bulkDs]
  | d :: l, [], h, _ => by simp at h
  | d :: l, e :: es, h, hp => by
    obtain ⟨e', h1, h2⟩ := hp 0 d rfl
    have h1 : e = e' := by simpa using h1
    subst h1
    have := bulk_sum l es (by simpa using h) fun i x hx => by simpa using hp (i + 1) x (by simpa using hx)
    simp only [bulkDs, Rows.uptoBulkAll]
    omega
theorem opb_slice {N : Nat} {t e : TypeId} {n : Nat} {S : D → Prop} (ht : (Try.prog).underlying t = some (.slice e)) (hn : (Try.prog).cellsOf e = n) (hp : 0 < n) (he : OpB N e n S) : OpB (N + 1) t 1 fun d => ∃ l, d = .lst l ∧ ∀ x ∈ l, S x := fun H enc W base sp hd fuel cs x hN hx => by
  rcases DataW.trod_slice ht hx with ⟨rfl, hxe⟩ | ⟨a, len, cap, elems, rest, m, hf, rfl, hxe, _, hl, hm, hlen, hel, _, _⟩
  · refine ⟨.lst [], .slice none 0 0, ⟨[], rfl, by simp⟩, rfl, rfl, ?_, by simp [Value.cells], by rw [hxe]; simp [bulkD, bulkDs, Rows.uptoBulk]⟩
    simp only [Rep]
    exact ⟨none, 0, [], rfl, by simp, by omega, .inl rfl, Reps.nil _ _, by simp⟩
  · obtain ⟨l, xs, h1, h0, h2, h3⟩ := collectB (hn := hp) (S := S) (w := W) (ad := a) (fun i d => ∃ y, elems[i]? = some y ∧ bulkD d ≤ Rows.uptoBulk y.1) len fun i hi => by
      have g1 := hel i hi
      rw [List.getElem?_eq_getElem (by omega), hn] at g1
      obtain ⟨cs', g2, g3⟩ := Option.bind_eq_some_iff.1 g1
      obtain ⟨d, v, k1, k2, k3, k4, k5, k6⟩ := he H enc W base sp hd m cs' _ (by omega) g3
      obtain ⟨_, g5, g6⟩ := World.cells?_some g2
      refine ⟨d, cs', ⟨_, List.getElem?_eq_getElem (by omega), k6⟩, ⟨k1, k2, k3, v, k4, k5⟩, fun j hj => ?_⟩
      rw [← add_addE]
      exact g6 j hj
    obtain ⟨h6, h7⟩ := layD_ls h2
    refine ⟨.lst l, .slice (some a) l.length cap, ⟨l, rfl, fun d hd => (h6 d hd).1⟩, rfl, rfl, ?_, by rw [h1]; simp [Value.cells], ?_⟩
    · simp only [Rep]
      exact ⟨some a, cap, xs, rfl, by omega, by unfold maxLen at hm; omega, rd_live (.inr ⟨a, rfl, h3⟩), h7, reps_ones h7 fun d hd => (h6 d hd).2⟩
    · rw [hxe]
      simp only [bulkD, Rows.uptoBulk]
      have := bulk_sum l (elems.map (·.1)) (by simp [h1, hlen]) fun i d hd => by
        obtain ⟨y, y1, y2⟩ := h0 i d hd
        exact ⟨y.1, by simp [y1], y2⟩
      omega
theorem opb_list {α : Type} {f : α → D} {N : Nat} {t e : TypeId} {n : Nat} (ht : (Try.prog).underlying t = some (.slice e)) (hn : (Try.prog).cellsOf e = n) (hp : 0 < n) (he : OpB N e n fun d => ∃ a, d = f a) : OpB (N + 1) t 1 fun d => ∃ av : List α, d = .lst (av.map f) :=
  (opb_slice ht hn hp he).to fun d ⟨l, hl, h⟩ => by
    obtain ⟨av, rfl⟩ := list_img h
    exact ⟨av, hl⟩
theorem opb_term : ∀ N, OpB N 45 4 fun d => ∃ t, d = encT t
  | 0 => fun H enc W base sp hd fuel cs x hN => by omega
  | N + 1 => (opb_struct (N := N) Try.underlying45 [fun d => ∃ n, d = .int .i64 n, fun d => ∃ n, d = .int .i64 n, fun d => ∃ s, d = .str s, fun d => ∃ l : List T, d = .lst (l.map encT)] ⟨opb_i64 Try.underlying3, opb_i64 Try.underlying3, opb_str Try.underlying9, (opb_list Try.underlying43 cells_term (by omega) (opb_term N)).less (by omega), trivial⟩ (by kernel_rfl) (by kernel_rfl) (by kernel_rfl)).to fun d ⟨ds, hd, h⟩ => by
    match ds, h with
    | [_, _, _, _], ⟨⟨k, rfl⟩, ⟨i, rfl⟩, ⟨s, rfl⟩, ⟨l, rfl⟩, _⟩ => exact ⟨.mk k i s l, by rw [hd, encT, fsT_eq]; rfl⟩
theorem opb_terms (N : Nat) : OpB N 43 1 fun d => ∃ l : List T, d = .lst (l.map encT) := (opb_list Try.underlying43 cells_term (by omega) (opb_term N)).less (by omega)
theorem opb_atom (N : Nat) : OpB N 71 2 fun d => ∃ a, d = encA a :=
  ((opb_struct (N := N) Try.underlying71 [fun d => ∃ s, d = .str s, fun d => ∃ l : List T, d = .lst (l.map encT)] ⟨opb_str Try.underlying9, opb_terms N, trivial⟩ (by kernel_rfl) (by kernel_rfl) (by kernel_rfl)).less (by omega)).to fun d ⟨ds, hd, h⟩ => by
    match ds, h with
    | [_, _], ⟨⟨s, rfl⟩, ⟨l, rfl⟩, _⟩ => exact ⟨⟨s, l⟩, hd⟩
theorem opb_atoms (N : Nat) : OpB N 47 1 fun d => ∃ l : List At, d = .lst (l.map encA) := (opb_list Try.underlying47 (by kernel_rfl) (by omega) (opb_atom N)).less (by omega)
theorem opb_goal (N : Nat) : OpB N 73 3 fun d => ∃ g, d = encG g :=
  ((opb_struct (N := N) Try.underlying73 [fun d => ∃ n, d = .int .i64 n, fun d => ∃ s, d = .str s, fun d => ∃ l : List T, d = .lst (l.map encT)] ⟨opb_i64 Try.underlying3, opb_str Try.underlying9, opb_terms N, trivial⟩ (by kernel_rfl) (by kernel_rfl) cells_goal).less (by omega)).to fun d ⟨ds, hd, h⟩ => by
    match ds, h with
    | [_, _, _], ⟨⟨n, rfl⟩, ⟨s, rfl⟩, ⟨l, rfl⟩, _⟩ => exact ⟨⟨n, s, l⟩, hd⟩
theorem opb_goals (N : Nat) : OpB N 48 1 fun d => ∃ l : List Gl, d = .lst (l.map encG) := (opb_list Try.underlying48 cells_goal (by omega) (opb_goal N)).less (by omega)
theorem opb_rule (N : Nat) : OpB N 50 6 fun d => ∃ r, d = enc_S_api_Rule r :=
  ((opb_struct (N := N) Try.underlying50 [fun d => ∃ s, d = .str s, fun d => ∃ l : List At, d = .lst (l.map encA), fun d => ∃ l : List At, d = .lst (l.map encA), fun d => ∃ l : List Gl, d = .lst (l.map encG), fun d => ∃ l : List Gl, d = .lst (l.map encG), fun d => ∃ n, d = .int .i64 n] ⟨opb_str Try.underlying9, opb_atoms N, opb_atoms N, opb_goals N, opb_goals N, opb_i64 Try.underlying3, trivial⟩ (by kernel_rfl) (by kernel_rfl) (by kernel_rfl)).less (by omega)).to fun d ⟨ds, hd, h⟩ => by
    match ds, h with
    | [_, _, _, _, _, _], ⟨⟨s, rfl⟩, ⟨a, rfl⟩, ⟨b, rfl⟩, ⟨c, rfl⟩, ⟨e, rfl⟩, ⟨n, rfl⟩, _⟩ => exact ⟨⟨s, a, b, c, e, n⟩, hd⟩
theorem opb_rules (N : Nat) : OpB N 23 1 fun d => ∃ l : List S_api_Rule, d = .lst (l.map enc_S_api_Rule) := (opb_list Try.underlying23 (by kernel_rfl) (by omega) (opb_rule N)).less (by omega)
theorem opb_decl (N : Nat) : OpB N 54 2 fun d => ∃ q, d = enc_S_api_Decl q :=
  ((opb_struct (N := N) Try.underlying54 [fun d => ∃ s, d = .str s, fun d => ∃ n, d = .int .i64 n] ⟨opb_str Try.underlying9, opb_i64 Try.underlying3, trivial⟩ (by kernel_rfl) (by kernel_rfl) (by kernel_rfl)).less (by omega)).to fun d ⟨ds, hd, h⟩ => by
    match ds, h with
    | [_, _], ⟨⟨s, rfl⟩, ⟨n, rfl⟩, _⟩ => exact ⟨⟨s, n⟩, hd⟩
theorem opb_decls (N : Nat) : OpB N 22 1 fun d => ∃ l : List S_api_Decl, d = .lst (l.map enc_S_api_Decl) := (opb_list Try.underlying22 (by kernel_rfl) (by omega) (opb_decl N)).less (by omega)
theorem opb_program (N : Nat) : OpB N 25 2 fun d => ∃ q, d = enc_S_api_Program q :=
  ((opb_struct (N := N) Try.underlying25 [fun d => ∃ l : List S_api_Decl, d = .lst (l.map enc_S_api_Decl), fun d => ∃ l : List S_api_Rule, d = .lst (l.map enc_S_api_Rule)] ⟨opb_decls N, opb_rules N, trivial⟩ (by kernel_rfl) (by kernel_rfl) (by kernel_rfl)).less (by omega)).to fun d ⟨ds, hd, h⟩ => by
    match ds, h with
    | [_, _], ⟨⟨s, rfl⟩, ⟨n, rfl⟩, _⟩ => exact ⟨⟨s, n⟩, hd⟩

/-! ### what the bulk bounds -/
mutual
theorem wt_bulk : ∀ t : T, wt t ≤ bulkD (encT t)
  | .mk k i s ar => by
    have := wtL_bulk ar
    rw [encT, fsT_eq]
    simp only [bulkD, bulkDs, wt, T.ar]
    omega
theorem wtL_bulk : ∀ l : List T, wtL l ≤ bulkDs (l.map encT)
  | [] => by simp [wtL]
  | t :: l => by
    have h1 := wt_bulk t
    have h2 := wtL_bulk l
    simp only [wtL, List.map_cons, bulkDs]
    omega
end
theorem bulk_mem {α : Type} {f : α → D} {a : α} : ∀ {l : List α}, a ∈ l → bulkD (f a) ≤ bulkDs (l.map f)
  | b :: l, h => by
    simp only [List.map_cons, bulkDs]
    rcases List.mem_cons.1 h with rfl | h
    · omega
    · have := bulk_mem (f := f) h; omega
theorem bf_bulk {a : At} (h : bulkD (encA a) ≤ 1048576) : wtL a.ts ≤ 1048576 := by
  have := wtL_bulk a.ts
  simp only [encA, bulkD, bulkDs] at h
  omega
theorem bg_bulk {g : Gl} (h : bulkD (encG g) ≤ 1048576) : wtL g.ts ≤ 1048576 := by
  have := wtL_bulk g.ts
  simp only [encG, bulkD, bulkDs] at h
  omega
/-- All constraints and goals of a program with such a bulk. -/
theorem prog_bulk {p : S_api_Program} (h : bulkD (enc_S_api_Program p) ≤ 1048576) : ∀ r ∈ p.f1_Rules, (∀ a ∈ r.f1_Keep, wtL a.ts ≤ 1048576) ∧ (∀ a ∈ r.f2_Remove, wtL a.ts ≤ 1048576) ∧ (∀ g ∈ r.f3_Guard, wtL g.ts ≤ 1048576) ∧ ∀ g ∈ r.f4_Body, wtL g.ts ≤ 1048576 := fun r hr => by
  simp only [enc_S_api_Program, bulkD, bulkDs] at h
  have h1 := bulk_mem (f := enc_S_api_Rule) hr
  simp only [enc_S_api_Rule, bulkD, bulkDs] at h1
  refine ⟨fun a ha => ?_, fun a ha => ?_, fun a ha => ?_, fun a ha => ?_⟩
  · have := bulk_mem (f := encA) ha
    exact bf_bulk (by omega)
  · have := bulk_mem (f := encA) ha
    exact bf_bulk (by omega)
  · have := bulk_mem (f := encG) ha
    exact bg_bulk (by omega)
  · have := bulk_mem (f := encG) ha
    exact bg_bulk (by omega)

/-! ### a law's arguments -/
structure ArgB where
  t : TypeId
  n : Nat
  S : D → Prop
  op : ∀ N, OpB N t n S
  cl : Cl t S
def bProgram : ArgB := ⟨_, _, _, opb_program, (cl_struct Try.underlying25).to fun _ ⟨_, h⟩ => ⟨_, h⟩⟩
def bGoals : ArgB := ⟨_, _, _, opb_goals, (cl_slice Try.underlying48).to fun _ ⟨_, h⟩ => ⟨_, h⟩⟩
def bInt : ArgB := ⟨_, _, _, fun _ => opb_i64 Try.underlying3, cl_i64 Try.underlying3⟩
theorem args_openB {H : Type} {enc : TypeId × Value → H} {W : World} {base b : Nat} {sp : Nat → Bool} {hd : Bool} : ∀ (av : List ArgB) (vs : List Value) (ds : List (DataW H)) (ps : List MemPlace),
    DataW.TrodAll enc Try.prog W base sp hd (av.map ArgB.t) vs ds ps → (∀ (j : Nat) t v, (av.map ArgB.t)[j]? = some t → vs[j]? = some v → Value.okWide Try.prog W .any b t v) → ∃ es, Fits (av.map ArgB.S) es ∧ Repl (live W) W es vs ∧ bulkDs es ≤ Rows.uptoBulkAll ds
  | [], vs, ds, ps, h, _ => by
    obtain ⟨rfl, rfl, _⟩ := trodAll_nil h
    exact ⟨[], trivial, Repl.nil _ _, by simp [bulkDs]⟩
  | a :: av, vs, ds, ps, h, hv => by
    obtain ⟨v, vs', d, ds', p, q, rfl, rfl, rfl, ⟨fuel, h1⟩, h2⟩ := trodAll_cons h
    obtain ⟨es, g1, g2, g3⟩ := args_openB av vs' ds' q h2 fun j t u ht hu => hv (j + 1) t u ht hu
    obtain ⟨e, u, k1, k2, k3, k4, k5, k6⟩ := a.op (fuel + 1) H enc W base sp hd fuel _ _ (by omega) h1
    have e1 := a.cl W b v (hv 0 a.t v rfl rfl) e k1
    have e2 := k4.back
    rw [← k5] at e2
    rw [← e2] at e1
    subst e1
    refine ⟨e :: es, ⟨k1, g1⟩, Repl.cons k4 g2, ?_⟩
    simp only [bulkDs, Rows.uptoBulkAll]
    have k6 : bulkD e ≤ Rows.uptoBulk d := k6
    omega
/-- What a law's function gives for each list of arguments of such a bulk. -/
def HoldsU (k : FuncId) (F : Func) : Prop := ∀ (H : Type) (enc : TypeId × Value → H) (W : World) (base : Nat) (args : Array Value) (ds : List (DataW H)) (p : List MemPlace),
  (∀ (j : Nat) t v, F.params[j]? = some t → args[j]? = some v → Value.okWide Try.prog W .any base t v) → DataW.TrodAll enc Try.prog W 0 (fun _ => true) true F.params.toList args.toList ds p → Rows.uptoSmall H ds = true →
  Calls Try.prog k args W (Ret W (Is (.bool true)))
theorem holdsU_of {k : FuncId} {F : Func} (av : List ArgB) (hp : F.params.toList = av.map ArgB.t) (hg : ∀ es, Fits (av.map ArgB.S) es → bulkDs es ≤ 1048576 → Gives Try.prog k es (.bool true)) : HoldsU k F := by
  intro H enc W base args ds p hval hA hk
  rw [hp] at hA
  obtain ⟨es, h1, h2, h3⟩ := args_openB (b := base) av args.toList ds p hA fun j t v ht hv => hval j t v (by rw [← Array.getElem?_toList, hp]; exact ht) (by simpa using hv)
  have hk' : Rows.uptoBulkAll ds ≤ 1048576 := of_decide_eq_true hk
  have hI : Inv (ctx W (live W) []) (live W) [] W := ⟨by simp, by simp [blks], by simp [blks], fun a ha => ha, Grow.refl _ _, fun a ha => .inl ha, rfl, rfl, rfl, Nat.le_refl _, fun b _ _ => rfl⟩
  refine (hg es h1 (Nat.le_trans h3 hk') W (live W) args.toList hI h2).mono ?_
  rintro e w' (⟨v, d, σ, q, rfl, rfl, hr, hi⟩ | ⟨_, _, _, _, _, hx, _⟩)
  rotate_left
  · exact hx.elim
  simp only [Rep] at hr
  subst hr
  exact Ret.mk rfl ⟨hi.os, hi.tape, hi.output, hi.size, fun b hb => hi.block b hb (by simp [ctx, blks])⟩
theorem law_contractU {k : FuncId} {F : Func} (h : HoldsU k F) {s : ChangeSpec} (hv : s.vars = [])
    (hts0 : (F.params.toList.all fun t => (Try.prog).readableRec t && decide (t < (Try.prog).types.size)) = true) (hres : F.resultTypes.toList = [4]) (hrs : F.resultTypes.size = 1)
    (hsp : ∀ (H : Type) (ds : List (DataW H)), ds.length = F.params.toList.length → s.fn H ds = { results := [.lit (.bool true)], args := ds })
    {H : Type} {enc : TypeId × Value → H} (W : World) (base : Nat) (args : Array Value) (ds gs : List (DataW H)) (before : List MemPlace)
    (hval : ∀ (j : Nat) t v, F.params[j]? = some t → args[j]? = some v → Value.okWide Try.prog W .any base t v)
    (hW : DataW.Whole enc Try.prog F.params.toList s.vars false W args.toList ds gs before) (hk : Rows.uptoSmall H (ds ++ gs) = true) :
    Calls Try.prog k args W fun e W' => ∃ v, e = .returned v ∧ s.post enc Try.prog F false true false false W args v W' := by
  have hts : ∀ t ∈ F.params.toList, (Try.prog).readableRec t = true ∧ t < (Try.prog).types.size := fun t ht => by
    have := List.all_eq_true.1 hts0 t ht
    simpa using this
  have hW' := hW
  obtain ⟨p, q, hA, hV, rfl, hfz, hnd⟩ := hW
  rw [hv] at hV
  obtain ⟨rfl, rfl⟩ := trodVars_none hV
  rw [List.append_nil] at hk
  refine (h H enc W base args ds p hval hA hk).mono ?_
  rintro e W' ⟨v, rfl, hvv, hb⟩
  have hvv : v = .bool true := hvv
  subst hvv
  have hlen := trodAll_len hA
  have hspec := hsp H ds hlen
  refine ⟨_, rfl, ds, [], p ++ [], [], p, [], hW', ?_, ?_, ?_, ?_, fun h => by cases h⟩
  · rw [List.append_nil, hspec, hres, hrs]
    exact trodAll_cons_mk (shut_bool Try.underlying4 _) trodAll_mk0
  · rw [List.append_nil, hspec]
    exact trodAll_grown laid_ hb hts (fun x hx => hW'.lt x (by simpa using hx)) hA
  · rw [List.append_nil, hspec, hv]; rfl
  · exact World.keptBut_mono (fun x hx => ⟨by simpa using hx, .inr (.inl (by simpa using hx))⟩) (Below.frame hb (fun x => x ∈ p))
end Go.Proofs.Ythcgefbigimgoaa

