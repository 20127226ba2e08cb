/-
  Names: which strings are names, and the walks of the program's and the reference's functions on them.
-/
import Derived.Test.YtcjbageaiafbmaaCmpW
import Derived.Lib.OthersKept
import Derived.Lib.TrimU
import Derived.Lib.IndexAny
import Derived.Deep.LoopGhost
import Derived.Lib.Bytealg
namespace Go.Proofs.Ytcjbageaiafbmaa
open Go.RowKit

def isLow (c : Nat) : Bool := decide (97 ≤ c ∧ c ≤ 122)
def isUp (c : Nat) : Bool := decide (65 ≤ c ∧ c ≤ 90)
def isDig (c : Nat) : Bool := decide (48 ≤ c ∧ c ≤ 57)
def ofC (c : Nat) : Nat := if 97 ≤ c ∧ c ≤ 122 then 1 else if (65 ≤ c ∧ c ≤ 90) ∨ c = 95 then 2 else if 48 ≤ c ∧ c ≤ 57 then 4 else 0
def isW (c : Nat) : Bool := decide (ofC c ≠ 0)

theorem sameB_if {w : World} {b c : Bool} (h : c = true ↔ b = true) : SameB w b (.returned (.bool c)) w := SameB.mk (by cases b <;> cases c <;> simp_all)

theorem lower_any (c : Nat) (w : World) : Calls Try.prog 82 #[.int .u8 c] w (SameB w (isLow c)) := by
  go_enter Try.func82, Try.ntmps82
  go_wp2
  all_goals go_ret
  all_goals refine sameB_if ?_
  all_goals (unfold isLow; simp only [decide_eq_true_eq, Bool.false_eq_true, false_iff]; omega)
theorem upper_any (c : Nat) (w : World) : Calls Try.prog 88 #[.int .u8 c] w (SameB w (isUp c)) := by
  go_enter Try.func88, Try.ntmps88
  go_wp2
  all_goals go_ret
  all_goals refine sameB_if ?_
  all_goals (unfold isUp; simp only [decide_eq_true_eq, Bool.false_eq_true, false_iff]; omega)

theorem of_any (c : Nat) (w : World) : Calls Try.prog 85 #[.int .u8 c] w fun e w' => e = .returned (.int .u8 (ofC c)) ∧ w = w' := by
  go_enter Try.func85, Try.ntmps85
  go_wp2
  all_goals go_ret
  all_goals refine ⟨congrArg (fun n : Int => Ending.returned (.int .u8 n)) (?_ : _ = ((ofC c : Nat) : Int)), rfl⟩
  all_goals ((try simp only [beq_eq_false_iff_ne, beq_iff_eq] at *); unfold ofC; repeat' split)
  all_goals omega

theorem ofC_cases (c : Nat) : ofC c = 0 ∨ ofC c = 1 ∨ ofC c = 2 ∨ ofC c = 4 := by
  unfold ofC
  repeat' split
  all_goals simp
theorem of_is (c : Nat) (k : Int) (h : (ofC c : Int) = k) (w : World) : Calls Try.prog 85 #[.int .u8 c] w fun e w' => e = .returned (.int .u8 k) ∧ w = w' := h ▸ of_any c w
/-- What the program's closure asks of a rune. -/
theorem rune_any (r : Nat) (w : World) : Calls Try.prog 87 #[.int .i32 r] w (SameB w (!isW r)) := by
  by_cases h1 : r ≤ 122
  · rcases ofC_cases r with h | h | h | h <;> have hI : Hid (isW r = _) := Lib.hid (congrArg (fun n => decide (n ≠ 0)) h) <;> have hc := hide (of_is r _ (congrArg Nat.cast h)) <;> clear h
    all_goals
      go_enter Try.func87, Try.ntmps87
      go_wp2_with fail
      refine ((unhide hc) _).mono ?_
      rintro e w1 ⟨rfl, rfl⟩
      go_wp2
      go_ret
      refine sameB_if ?_
      rw [hI.out]
      simp
      try omega
  · have HF : Hid (isW r = false) := Lib.hid (by unfold isW ofC; rw [if_neg (by omega), if_neg (by omega), if_neg (by omega)]; rfl)
    go_enter Try.func87, Try.ntmps87
    go_wp2
    go_ret
    exact SameB.mk (by rw [HF.out]; rfl)

def reserved (s : ByteArray) : Bool := decide (s.toList = [99, 111, 110, 115, 116, 114, 97, 105, 110, 116] ∨ s.toList = [116, 114, 117, 101] ∨ s.toList = [102, 97, 105, 108] ∨ s.toList = [105, 115] ∨ s.toList = [105, 110, 116] ∨ s.toList = [103, 114, 111, 117, 110, 100])
theorem refReserved_any (s : ByteArray) (w : World) : Calls Try.prog 83 #[.string s] w (SameB w (reserved s)) := by
  go_enter Try.func83, Try.ntmps83
  go_wp2
  all_goals go_ret
  all_goals refine sameB_if ?_
  all_goals (unfold reserved; simp [*])
theorem reserved_any (s : ByteArray) (w : World) : Calls Try.prog 80 #[.string s] w (SameB w (reserved s)) := by
  go_enter Try.func80, Try.ntmps80
  go_wp2
  all_goals go_ret
  all_goals refine sameB_if ?_
  all_goals ((try simp only [beq_iff_eq, beq_eq_false_iff_ne] at *); first | contradiction | (unfold reserved; simp [*]))

theorem indexByte_any (s : ByteArray) (c : Int) (w : World) : Calls Try.prog 92 #[.string s, .int .u8 c] w (SameI w (Lib.indexByte s.data.toList c.toNat.toUInt8)) := by
  go_enter Try.func92, Try.ntmps92
  go_wp2
  rw [run_callFunc_extern Try.func96 (by kernel_rfl) (by kernel_rfl) (by kernel_rfl) (e := Extern.BytealgIndexByte.indexByte) (by kernel_rfl), Lib.run_indexByteString]
  simp only [Result.andThen]
  rw [Oper.upon_value]
  go_wp2
  go_ret
  exact SameI.mk rfl
theorem indexLite_any (c : UInt8) (w : World) : Calls Try.prog 91 #[.string { data := #[43, 45, 42, 47, 37] }, .string ⟨#[c]⟩] w (SameI w (Lib.indexByte [43, 45, 42, 47, 37] c)) := by
  go_enter Try.func91, Try.ntmps91
  go_wp2_with fail
  refine (indexByte_any _ _ _).mono ?_
  rintro e w1 ⟨rfl, rfl⟩
  go_wp2
  go_ret
  exact SameI.mk rfl
theorem index_any (c : UInt8) (w : World) : Calls Try.prog 89 #[.string { data := #[43, 45, 42, 47, 37] }, .string ⟨#[c]⟩] w (SameI w (Lib.indexByte [43, 45, 42, 47, 37] c)) := by
  go_enter Try.func89, Try.ntmps89
  go_wp2_with fail
  refine (indexLite_any _ _).mono ?_
  rintro e w1 ⟨rfl, rfl⟩
  go_wp2
  go_ret
  exact SameI.mk rfl
/-- One of the five operators. -/
def isOp (s : ByteArray) : Bool := decide (s.toList = [43] ∨ s.toList = [45] ∨ s.toList = [42] ∨ s.toList = [47] ∨ s.toList = [37])
theorem refOperator_any (s : ByteArray) (w : World) : Calls Try.prog 74 #[.string s] w (SameB w (isOp s)) := by
  go_enter Try.func74, Try.ntmps74
  go_wp2
  all_goals go_ret
  all_goals refine sameB_if ?_
  all_goals (unfold isOp; simp [*])
theorem isOp_one (c : UInt8) : isOp ⟨#[c]⟩ = decide (0 ≤ Lib.indexByte [43, 45, 42, 47, 37] c) := by
  rw [← Lib.contains_iff_indexByte]
  unfold isOp
  have : (⟨#[c]⟩ : ByteArray).toList = [c] := by simp [Lib.toList_data]
  rw [this, Bool.eq_iff_iff]
  simp
theorem contains_any (c : UInt8) (w : World) : Calls Try.prog 84 #[.string { data := #[43, 45, 42, 47, 37] }, .string ⟨#[c]⟩] w (SameB w (isOp ⟨#[c]⟩)) := by
  rw [isOp_one]
  go_enter Try.func84, Try.ntmps84
  go_wp2_with fail
  refine (index_any _ _).mono ?_
  rintro e w1 ⟨rfl, rfl⟩
  go_wp2
  go_ret
  exact SameB.mk rfl
theorem operator_any (s : ByteArray) (w : World) : Calls Try.prog 73 #[.string s] w (SameB w (isOp s)) := by
  by_cases h1 : s.size = 1
  · obtain ⟨c, rfl⟩ : ∃ c, s = ⟨#[c]⟩ := by
      obtain ⟨a⟩ := s
      have h2 : a.size = 1 := h1
      refine ⟨a[0], congrArg ByteArray.mk (Array.ext (by simp [h2]) fun i hi hj => ?_)⟩
      obtain rfl : i = 0 := by omega
      rfl
    go_enter Try.func73, Try.ntmps73
    go_wp2_with fail
    refine (contains_any _ _).mono ?_
    rintro e w1 ⟨rfl, rfl⟩
    go_wp2
    go_ret
    exact SameB.mk rfl
  · have HF : Hid (isOp s = false) := Lib.hid (by
      unfold isOp
      rw [decide_eq_false_iff_not]
      have h2 : s.toList.length = s.size := by rw [Lib.toList_data]; rfl
      rintro (h | h | h | h | h) <;> rw [h] at h2 <;> exact h1 h2.symm)
    go_enter Try.func73, Try.ntmps73
    go_wp2
    go_ret
    exact SameB.mk HF.out.symm
/-- All bytes from here on are those of words. -/
def AllW (s : ByteArray) (i : Nat) : Prop := ∀ j (h : j < s.size), i ≤ j → isW (s[j]'h).toNat = true
def UpTo (s : ByteArray) (i : Nat) : Prop := ∀ j (h : j < s.size), j < i → isW (s[j]'h).toNat = true
open Classical in
/-- A word: 1 to 40 bytes, all of them those of words. -/
noncomputable def isWord (s : ByteArray) : Bool := decide (1 ≤ s.size ∧ s.size ≤ 40 ∧ AllW s 0)

theorem isW_eq (c : Nat) : isW c = (isLow c || isUp c || c == 95 || isDig c) := by
  unfold isW ofC isLow isUp isDig
  rw [Bool.eq_iff_iff]
  simp only [ne_eq, decide_eq_true_eq, Bool.or_eq_true, beq_iff_eq]
  repeat' split
  all_goals simp
  all_goals omega

theorem UpTo.step {s : ByteArray} {k : Nat} (h : UpTo s k) (hk : k < s.size) (hc : isW (s[k]'hk).toNat = true) : UpTo s (k + 1) := fun j hj hl => by
  by_cases hjk : j = k
  · subst hjk; exact hc
  · exact h j hj (by omega)
theorem not_word {s : ByteArray} {k : Nat} (hk : k < s.size) (hc : isW (s[k]'hk).toNat = false) : isWord s = false := by
  unfold isWord
  rw [decide_eq_false_iff_not]
  rintro ⟨-, -, h⟩
  rw [h k hk (Nat.zero_le _)] at hc
  simp at hc
theorem word_end {s : ByteArray} (h : UpTo s s.size) : isWord s = decide (1 ≤ s.size ∧ s.size ≤ 40) := by
  unfold isWord
  have : AllW s 0 := fun j hj _ => h j hj hj
  rw [Bool.eq_iff_iff]
  simp [this]
def WordRel (w : World) (s : ByteArray) (v3 : Value) (w' : World) : Prop := ∃ k : Nat, v3 = .int .i64 k ∧ k ≤ s.size ∧ Hid (UpTo s k) ∧ w = w'

theorem wrap_next {s : ByteArray} (hs : Hid (s.size ≤ 9223372036854775807)) {k : Nat} (hk : k < s.size) : Hid (wrap64 ((k : Int) + 1) = ((k + 1 : Nat) : Int)) := by
  have := hs.out
  refine Lib.hid ?_
  unfold wrap64
  omega
theorem refWord_any (s : ByteArray) (hs : Hid (s.size ≤ 9223372036854775807)) (w : World) : Calls Try.prog 81 #[.string s] w (SameB w (isWord s)) := by
  go_enter Try.func81, Try.ntmps81
  go_wp2
  go_loopw [3] (WordRel w s) (fun v3 _ => s.size - (intOf v3).toNat)
  case atStart => exact ⟨0, rfl, by omega, Lib.hid (fun j _ h => absurd h (by omega)), rfl⟩
  case round =>
    obtain ⟨k, rfl, hk, hi, rfl⟩ := hrel
    by_cases hlt : k < s.size
    · obtain ⟨c, hc⟩ : ∃ c, (s[k]'hlt).toNat = c := ⟨_, rfl⟩
      have hW : Hid (isW c = true → UpTo s (k + 1)) := Lib.hid fun h => hi.out.step hlt (by rw [hc]; exact h)
      have hN : Hid (isW c = false → isWord s = false) := Lib.hid fun h => not_word hlt (by rw [hc]; exact h)
      have hwr := wrap_next hs hlt
      have hlo := hide (lower_any c)
      have hup := hide (upper_any c)
      cases h1 : isLow c <;> rw [h1] at hlo
      · cases h2 : isUp c <;> rw [h2] at hup
        · have hQ : Hid (isW c = (c == 95 || isDig c)) := Lib.hid (by rw [isW_eq, h1, h2]; rfl)
          clear h1 h2
          go_wp2_with fail
          try simp only [hc]
          refine ((unhide hlo) _).mono ?_
          rintro e w1 ⟨rfl, rfl⟩
          go_wp2_with fail
          try simp only [hc]
          refine ((unhide hup) _).mono ?_
          rintro e w1 ⟨rfl, rfl⟩
          go_wp2
          · have HF : Hid (isWord s = false) := by
              refine Lib.hid (hN.out ?_)
              rw [hQ.out]; unfold isDig; simp_all; omega
            go_ret
            exact SameB.mk HF.out.symm
          · have HI : Hid (UpTo s (k + 1)) := by
              refine Lib.hid (hW.out ?_)
              rw [hQ.out]; unfold isDig; simp_all; omega
            refine ⟨⟨k + 1, by rw [hwr.out], by omega, HI, rfl⟩, ?_⟩
            rw [hwr.out]; simp [intOf]; omega
          · have HI : Hid (UpTo s (k + 1)) := by
              refine Lib.hid (hW.out ?_)
              rw [hQ.out]; unfold isDig; simp_all; omega
            refine ⟨⟨k + 1, by rw [hwr.out], by omega, HI, rfl⟩, ?_⟩
            rw [hwr.out]; simp [intOf]; omega
          · have HF : Hid (isWord s = false) := by
              refine Lib.hid (hN.out ?_)
              rw [hQ.out]; unfold isDig; simp_all; omega
            go_ret
            exact SameB.mk HF.out.symm
          all_goals
            have HI : Hid (UpTo s (k + 1)) := by
              refine Lib.hid (hW.out ?_)
              rw [hQ.out]; unfold isDig; simp_all
            refine ⟨⟨k + 1, by rw [hwr.out], by omega, HI, rfl⟩, ?_⟩
            rw [hwr.out]; simp [intOf]; omega
        · have HI : Hid (UpTo s (k + 1)) := Lib.hid (hW.out (by rw [isW_eq, h1, h2]; rfl))
          clear h1 h2
          go_wp2_with fail
          try simp only [hc]
          refine ((unhide hlo) _).mono ?_
          rintro e w1 ⟨rfl, rfl⟩
          go_wp2_with fail
          try simp only [hc]
          refine ((unhide hup) _).mono ?_
          rintro e w1 ⟨rfl, rfl⟩
          go_wp2
          go_roundw
          case measure => rw [hwr.out]; simp [intOf]; omega
          case rel => exact ⟨k + 1, by rw [hwr.out], by omega, HI, rfl⟩
      · have HI : Hid (UpTo s (k + 1)) := Lib.hid (hW.out (by rw [isW_eq, h1]; rfl))
        clear h1
        go_wp2_with fail
        try simp only [hc]
        refine ((unhide hlo) _).mono ?_
        rintro e w1 ⟨rfl, rfl⟩
        go_wp2
        go_roundw
        case measure => rw [hwr.out]; simp [intOf]; omega
        case rel => exact ⟨k + 1, by rw [hwr.out], by omega, HI, rfl⟩
    · have HE : Hid (isWord s = decide (1 ≤ s.size ∧ s.size ≤ 40)) := by
        obtain rfl : k = s.size := by omega
        exact Lib.hid (word_end hi.out)
      go_wp2
      all_goals go_ret
      all_goals refine sameB_if ?_
      all_goals (rw [HE.out]; simp; try omega)
/-- A name: a word that begins with a small letter, and that is not reserved. -/
noncomputable def isName (s : ByteArray) : Bool := isWord s && isLow (s.get! 0).toNat && !reserved s
theorem get_at {s : ByteArray} {k : Nat} (h : k < s.size) : s.get! k = s[k]'h := by
  show s.get! k = _
  simp [ByteArray.get!, getElem!_pos, h]
  rfl
theorem get0 {s : ByteArray} (h : 0 < s.size) : (s[0]'h) = s.get! 0 := (get_at h).symm
open Classical in
theorem isWord_true {s : ByteArray} (h : isWord s = true) : 1 ≤ s.size ∧ s.size ≤ 40 ∧ AllW s 0 := by
  unfold isWord at h
  exact of_decide_eq_true h
theorem refName_any (s : ByteArray) (hs : Hid (s.size ≤ 9223372036854775807)) (w : World) : Calls Try.prog 70 #[.string s] w (SameB w (isName s)) := by
  have hword := hide (refWord_any s hs)
  have hres := hide (refReserved_any s)
  have hlow := hide (lower_any (s.get! 0).toNat)
  cases h1 : isWord s <;> rw [h1] at hword
  · have HF : Hid (isName s = false) := Lib.hid (by unfold isName; rw [h1]; rfl)
    clear h1
    go_enter Try.func70, Try.ntmps70
    go_wp2_with fail
    refine ((unhide hword) _).mono ?_
    rintro e w1 ⟨rfl, rfl⟩
    go_wp2
    go_ret
    exact SameB.mk HF.out.symm
  · have hpos : 0 < s.size := by
      have := (isWord_true h1).1
      omega
    have hg := get0 hpos
    cases h2 : isLow (s.get! 0).toNat <;> rw [h2] at hlow
    · have HF : Hid (isName s = false) := Lib.hid (by unfold isName; rw [h1, h2]; rfl)
      clear h1 h2
      go_enter Try.func70, Try.ntmps70
      go_wp2_with fail
      refine ((unhide hword) _).mono ?_
      rintro e w1 ⟨rfl, rfl⟩
      go_wp2_with fail
      try rw [hg]
      refine ((unhide hlow) _).mono ?_
      rintro e w1 ⟨rfl, rfl⟩
      go_wp2
      go_ret
      exact SameB.mk HF.out.symm
    · have HF : Hid (isName s = !reserved s) := Lib.hid (by unfold isName; rw [h1, h2]; rfl)
      clear h1 h2
      go_enter Try.func70, Try.ntmps70
      go_wp2_with fail
      refine ((unhide hword) _).mono ?_
      rintro e w1 ⟨rfl, rfl⟩
      go_wp2_with fail
      try rw [hg]
      refine ((unhide hlow) _).mono ?_
      rintro e w1 ⟨rfl, rfl⟩
      go_wp2_with fail
      refine ((unhide hres) _).mono ?_
      rintro e w1 ⟨rfl, rfl⟩
      go_wp2
      go_ret
      exact SameB.mk HF.out.symm
/-- A byte that is no word's begins a rune that is none either. -/
theorem rune_isW (s : ByteArray) (pos : Nat) (h : pos < s.size) : (isW (Utf8.decode s pos).1 = true → isW (s[pos]'h).toNat = true ∧ (Utf8.decode s pos).2 = 1) ∧ (isW (Utf8.decode s pos).1 = false → isW (s[pos]'h).toNat = false) := by
  by_cases ha : (s[pos]'h).toNat < 128
  · rw [decode_ascii s pos h ha]
    exact ⟨fun h => ⟨h, rfl⟩, fun h => h⟩
  · have hbig : ¬ (Utf8.decode s pos).1 ≤ 122 := by
      rw [Lib.decode_at, get_at h]
      unfold Lib.decodeN
      repeat' split
      all_goals simp only
      all_goals first | omega | simp_all
    have hno : ∀ c : Nat, ¬ c ≤ 122 → isW c = false := fun c hc => by
      unfold isW ofC
      rw [if_neg (by omega), if_neg (by omega), if_neg (by omega)]
      rfl
    rw [hno _ hbig, hno _ (by omega)]
    simp

def IdxRel (w : World) (s : ByteArray) (wr : World) : Prop := ∃ pos : Nat, wr.heap[w.heap.size]? = some (.stringIter s pos) ∧ Ext w wr ∧ pos ≤ s.size ∧ Hid (UpTo s pos)
def Index (s : ByteArray) (v : Value) (_ : World) : Prop := ∃ n : Int, v = .int .i64 n ∧ (n < 0 ↔ AllW s 0)
theorem Index.mk {s : ByteArray} {n : Int} {w : World} (h : n < 0 ↔ AllW s 0) : Index s (.int .i64 n) w := ⟨n, rfl, h⟩

theorem indexFunc_any (s : ByteArray) (w : World) : Calls Try.prog 90 #[.string s, .func (.func 87) #[] #[], .bool true] w (Ret w (Index s)) := by
  go_enter Try.func90, Try.ntmps90
  go_wp2
  go_loopg [] s.size (fun gf wx => ∃ pos : Nat, wx.heap[w.heap.size]? = some (.stringIter s pos) ∧ Ext w wx ∧ pos ≤ s.size ∧ Hid (UpTo s pos) ∧ s.size ≤ pos + gf)
  case atStart => exact ⟨0, World.iter_heap w s 0, (Ext.rfl' w).al _, by omega, Lib.hid (fun j _ h => absurd h (by omega)), by omega⟩
  case round =>
    obtain ⟨pos, hit, hbw, hle, hup, hfu⟩ := hrel
    by_cases hps : pos < s.size
    · obtain ⟨g', rfl⟩ : ∃ g', gk = g' + 1 := ⟨gk - 1, by omega⟩
      have hnx : ∀ ty, (Instr.next (.pointer (some ⟨w.heap.size, 0, none⟩)) true ty).run Try.prog wr = _ := fun ty => Lib.run_next_any_at wr w.heap.size s pos ty hit hps
      obtain ⟨hY, hN⟩ := rune_isW s pos hps
      obtain ⟨R, hR⟩ : ∃ R, (Utf8.decode s pos).1 = R := ⟨_, rfl⟩
      obtain ⟨K, hK⟩ : ∃ K, (Utf8.decode s pos).2 = K := ⟨_, rfl⟩
      rw [hR, hK] at hnx hY
      rw [hR] at hN
      have hit2 := Lib.iterAt_heap wr w.heap.size s pos (pos + K) hit
      have hbw2 : Ext w (wr.iterAt w.heap.size s (pos + K)) := Lib.below_iterAt hbw (k := w.heap.size) (Nat.le_refl _) s (pos + K)
      obtain ⟨W, hWd⟩ : ∃ W, wr.iterAt w.heap.size s (pos + K) = W := ⟨_, rfl⟩
      rw [hWd] at hnx hit2 hbw2
      have hrune := hide (rune_any R)
      cases hsp : isW R <;> rw [hsp] at hrune
      · have HI : Hid (¬ AllW s 0) := Lib.hid fun h => by
          have := hN hsp
          rw [h pos hps (Nat.zero_le _)] at this
          simp at this
        clear hY hN hsp hR hK hWd
        go_wp2_with fail
        refine ((unhide hrune) _).mono ?_
        rintro e w1 ⟨rfl, rfl⟩
        go_wp2
        go_ret
        refine Ret.mk (Index.mk ?_) hbw2
        have := HI.out
        constructor
        · intro h; omega
        · intro h; exact absurd h this
      · obtain rfl : K = 1 := (hY hsp).2
        have HI : Hid (UpTo s (pos + 1)) := Lib.hid (hup.out.step hps (hY hsp).1)
        clear hY hN hsp hR hK hWd
        go_wp2_with fail
        refine ((unhide hrune) _).mono ?_
        rintro e w1 ⟨rfl, rfl⟩
        go_wp2
        go_roundg g'
        case measure => omega
        case rel => exact ⟨pos + 1, hit2, hbw2, by omega, HI, by omega⟩
    · have hnx : ∀ ty, (Instr.next (.pointer (some ⟨w.heap.size, 0, none⟩)) true ty).run Try.prog wr = _ := fun ty => Lib.run_next_end_at wr w.heap.size s pos ty hit hps
      have HI : Hid (AllW s 0) := Lib.hid fun j h _ => hup.out j h (by omega)
      go_wp2
      go_ret
      refine Ret.mk (Index.mk ?_) hbw
      have := HI.out
      constructor
      · intro _; exact this
      · intro _; omega
theorem indexF_any (s : ByteArray) (w : World) : Calls Try.prog 86 #[.string s, .func (.func 87) #[] #[]] w (Ret w (Index s)) := by
  go_enter Try.func86, Try.ntmps86
  go_wp2_with fail
  refine (indexFunc_any _ _).mono ?_
  rintro e w1 ⟨v, rfl, ⟨n, rfl, hn⟩, he⟩
  have hn := hide hn
  go_wp2
  go_ret
  exact Ret.mk (Index.mk (unhide hn)) he
theorem tail_all {s : ByteArray} (hs : 0 < s.size) (h0 : isW (s.get! 0).toNat = true) : AllW (s.extract 1 s.size) 0 ↔ AllW s 0 := by
  constructor
  · intro h j hj _
    rcases Nat.eq_zero_or_pos j with rfl | hp
    · rw [← get_at hj]; exact h0
    · have h1 : j - 1 < (s.extract 1 s.size).size := by rw [ByteArray.size_extract]; omega
      have := h (j - 1) h1 (Nat.zero_le _)
      rw [ByteArray.getElem_extract] at this
      simpa [show 1 + (j - 1) = j by omega] using this
  · intro h j hj _
    rw [ByteArray.getElem_extract]
    exact h _ _ (Nat.zero_le _)
theorem low_W {c : Nat} (h : isLow c = true) : isW c = true := by rw [isW_eq, h]; rfl

theorem ofC_low {c : Nat} (h : isLow c = true) : ofC c = 1 := by
  unfold isLow at h
  unfold ofC
  rw [if_pos (by simpa using h)]
theorem ofC_notlow {c : Nat} (h : isLow c = false) : ofC c = 0 ∨ ofC c = 2 ∨ ofC c = 4 := by
  unfold isLow at h
  unfold ofC
  rw [if_neg (by simpa using h)]
  repeat' split
  all_goals simp
theorem toList_size (s : ByteArray) : s.toList.length = s.size := by rw [Lib.toList_data]; rfl
theorem word_or {s : ByteArray} (h : s.size = 0 ∨ 40 < s.size) : Hid ((isWord s && isLow (s.get! 0).toNat) = false) := Lib.hid (by
  cases h1 : isWord s
  · rfl
  · have := isWord_true h1; omega)
open Classical in
theorem isWord_all {s : ByteArray} (h1 : 0 < s.size) (h2 : ¬ 40 < s.size) (h : AllW s 0) : isWord s = true := by
  unfold isWord
  exact decide_eq_true ⟨by omega, by omega, h⟩
theorem bits01 : bits .and .u8 0 1 = 0 := by decide
theorem bits21 : bits .and .u8 2 1 = 0 := by decide
theorem bits41 : bits .and .u8 4 1 = 0 := by decide
theorem bits11 : bits .and .u8 1 1 = 1 := by decide
theorem nameWord_any (s : ByteArray) (w : World) : Calls Try.prog 79 #[.string s, .int .u8 1] w (Ret w (Is (.bool (isWord s && isLow (s.get! 0).toNat)))) := by
  by_cases h0 : s.size = 0
  · have HF := word_or (.inl h0)
    have hl : s.toList = [] := List.eq_nil_of_length_eq_zero (by rw [toList_size, h0])
    go_enter Try.func79, Try.ntmps79
    go_wp2
    go_ret
    exact Ret.mk (HF.out ▸ rfl) (Ext.rfl' w)
  have hl : ¬ s.toList = [] := fun h => h0 (by rw [← toList_size, h]; rfl)
  have hl2 : s.toList.isEmpty = false := by simpa using hl
  by_cases h40 : 40 < s.size
  · have HF := word_or (.inr h40)
    go_enter Try.func79, Try.ntmps79
    go_wp2
    go_ret
    exact Ret.mk (HF.out ▸ rfl) (Ext.rfl' w)
  have hpos : 0 < s.size := by omega
  have hg := get0 hpos
  cases h1 : isLow (s.get! 0).toNat
  · rcases ofC_notlow h1 with h | h | h <;> have hof := hide (of_is _ _ (congrArg Nat.cast h))
    all_goals
      clear h h1
      have b0 := bits01
      have b2 := bits21
      have b4 := bits41
      go_enter Try.func79, Try.ntmps79
      go_wp2_with fail
      refine ((unhide hof) _).mono ?_
      rintro e w1 ⟨rfl, rfl⟩
      go_wp2
      go_ret
      exact Ret.mk (by rw [Bool.and_false]; rfl) (Ext.rfl' w)
  · have hof := hide (of_is _ _ (congrArg Nat.cast (ofC_low h1)))
    have hT : Hid (AllW (s.extract 1 s.size) 0 ↔ AllW s 0) := Lib.hid (tail_all hpos (low_W h1))
    have hF : Hid (AllW s 0 → isWord s = true) := Lib.hid (isWord_all hpos h40)
    clear h1
    have b1 := bits11
    go_enter Try.func79, Try.ntmps79
    go_wp2_with fail
    refine ((unhide hof) _).mono ?_
    rintro e w1 ⟨rfl, rfl⟩
    go_wp2_with fail
    refine (indexF_any _ _).mono ?_
    rintro e w1 ⟨v, rfl, ⟨n, rfl, hn⟩, he⟩
    have hn := hide hn
    go_wp2
    go_ret
    refine Ret.mk ?_ he
    have h3 := (unhide hn).trans hT.out
    show Value.bool _ = Value.bool _
    congr 1
    rw [Bool.and_true, Bool.eq_iff_iff, decide_eq_true_eq]
    exact ⟨fun h => hF.out (h3.1 h), fun h => h3.2 (isWord_true h).2.2⟩
theorem name_any (s : ByteArray) (w : World) : Calls Try.prog 69 #[.string s] w (Ret w (Is (.bool (isName s)))) := by
  have hword := hide (nameWord_any s)
  cases h1 : isWord s && isLow (s.get! 0).toNat <;> rw [h1] at hword
  · have HF : Hid (isName s = false) := Lib.hid (by unfold isName; rw [h1]; rfl)
    clear h1
    go_enter Try.func69, Try.ntmps69
    go_wp2_with fail
    refine ((unhide hword) _).mono ?_
    rintro e w1 ⟨v, rfl, hv, he⟩
    obtain rfl : v = _ := hv
    go_wp2
    go_ret
    exact Ret.mk (HF.out ▸ rfl) he
  · have HF : Hid (isName s = !reserved s) := Lib.hid (by unfold isName; rw [h1]; rfl)
    clear h1
    go_enter Try.func69, Try.ntmps69
    go_wp2_with fail
    refine ((unhide hword) _).mono ?_
    rintro e w1 ⟨v, rfl, hv, he⟩
    obtain rfl : v = _ := hv
    go_wp2_with fail
    refine (reserved_any _ _).mono ?_
    rintro e w1 ⟨rfl, rfl⟩
    go_wp2
    go_ret
    exact Ret.mk (HF.out ▸ rfl) he
end Go.Proofs.Ytcjbageaiafbmaa
