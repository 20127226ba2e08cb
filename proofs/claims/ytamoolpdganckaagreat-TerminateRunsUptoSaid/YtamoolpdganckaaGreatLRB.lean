/-
 Texts of the seat, merged.
-/
import Derived.Test.YtamoolpdganckaaGreatLRA
set_option linter.unusedVariables false
set_option linter.unusedSimpArgs false
set_option linter.unnecessarySimpa false
set_option linter.all false
set_option maxHeartbeats 8000000
namespace Go.Proofs.YtamoolpdganckaaGreat
set_option maxRecDepth 100000
open Go.RowKit
inductive D where
 | bool (b : Bool)
 | int (k : IntKind) (n : Int)
 | str (s : ByteArray)
 | lst (l : List D)
 | full (l : List D)
 | own (u : Value) (l : List D)
 | agg (fs : List D)
 | ptr (d : D)
 | ref (b off : Nat) (path : List Nat)
 | mref (b i s off : Nat) (path : List Nat)
 | arr (b s lo n : Nat)
 | vec (u : Value) (n : Nat)
 | clo (fn : Fn) (first cap : List D)
 | nilf
 | nilm
 | nilp
 | map (r : Nat)
 | ifc (t : TypeId) (d : D)
 | nili
 | tup (ds : List D)
 | undef
def RdP (p : Addr → Prop) (w : World) (A : Option Addr) (xs : List Value) : Prop := xs = [] ∨ ∃ b o, A = some ⟨b, o, none⟩ ∧ ∀ j u, xs[j]? = some u → p ⟨b, o + j, none⟩ ∧ w.cell? ⟨b, o + j, none⟩ = some u
mutual
def Rep (p : Addr → Prop) (w : World) : D → Value → Prop
 | .bool b, v => v = .bool b
 | .int k n, v => v = .int k n ∧ k.wrap n = n
 | .str s, v => v = .string s ∧ s.size ≤ 9223372036854775807
 | .lst l, v => ∃ A c xs, v = .slice A l.length c ∧ l.length ≤ c ∧ c ≤ 9223372036854775807 ∧ RdP p w A xs ∧ zz p w l xs ∧ ∀ u ∈ xs, u.oneCell' = true
 | .full l, v => ∃ A xs, v = .slice A l.length l.length ∧ l.length ≤ 9223372036854775807 ∧ RdP p w A xs ∧ zz p w l xs ∧ ∀ u ∈ xs, u.oneCell' = true
 | .own u l, v => v = u ∧ ∃ A c xs, u = .slice A l.length c ∧ l.length ≤ c ∧ c ≤ 9223372036854775807 ∧ RdP p w A xs ∧ zz p w l xs ∧ ∀ u ∈ xs, u.oneCell' = true
 | .agg fs, v => ∃ cs, v = .agg cs.toArray ∧ zz p w fs cs ∧ ∀ u ∈ cs, u.oneCell' = true
 | .ptr d, v => ∃ b o u, v = .pointer (some ⟨b, o, none⟩) ∧ RdP p w (some ⟨b, o, none⟩) u.cells.toList ∧ Rep p w d u ∧ ∀ x ∈ u.cells.toList, x.oneCell' = true
 | .ref b off _, v => v = .pointer (some ⟨b, off, none⟩)
 | .mref b i s off _, v => v = .pointer (some ⟨b, i * s + off, none⟩)
 | .arr b s lo n, v => ∃ A c, v = .slice A n c ∧ n ≤ c ∧ c ≤ 9223372036854775807 ∧ (n = 0 ∨ A = some ⟨b, lo * s, none⟩)
 | .vec u n, v => v = u ∧ ∃ A c, u = .slice A n c ∧ n ≤ c ∧ c ≤ 9223372036854775807
 | .clo fn f c, v => ∃ fs cs, v = .func fn fs.toArray cs.toArray ∧ zH p w f fs ∧ zH p w c cs
 | .nilf, v => v = .nilFunc
 | .nilm, v => v = .map none
 | .nilp, v => v = .pointer none
 | .map r, v => v = .map (some r)
 | .ifc t d, v => ∃ u, v = .iface t u ∧ Rep p w d u
 | .nili, v => v = .nilIface
 | .tup ds, v => ∃ vs, v = .tuple vs.toArray ∧ zH p w ds vs
 | .undef, v => v = Go.undef
def zz (p : Addr → Prop) (w : World) : List D → List Value → Prop
 | [], cs => cs = []
 | d :: ds, cs => ∃ v rest, cs = v.cells.toList ++ rest ∧ Rep p w d v ∧ zz p w ds rest
def zH (p : Addr → Prop) (w : World) : List D → List Value → Prop
 | [], vs => vs = []
 | d :: ds, vs => ∃ v rest, vs = v :: rest ∧ Rep p w d v ∧ zH p w ds rest
end
def zT (p : Addr → Prop) (w : World) (p' : Addr → Prop) (w' : World) : Prop := ∀ a, p a → p' a ∧ w'.cell? a = w.cell? a
theorem zT.refl (p : Addr → Prop) (w : World) : zT p w p w := fun _ h => ⟨h, rfl⟩
theorem zT.tr {p p' p'' : Addr → Prop} {w w' w'' : World} (h : zT p w p' w') (k : zT p' w' p'' w'') : zT p w p'' w'' := fun a ha => ⟨(k a (h a ha).1).1, (k a (h a ha).1).2.trans (h a ha).2⟩
theorem RdP.grow {p p' : Addr → Prop} {w w' : World} {A : Option Addr} {xs : List Value} (h : RdP p w A xs) (g : zT p w p' w') : RdP p' w' A xs := by
 rcases h with h | ⟨b, o, h1, h2⟩
 exact .inl h
 exact .inr ⟨b, o, h1, fun j u hu => ⟨(g _ (h2 j u hu).1).1, ((g _ (h2 j u hu).1).2).trans (h2 j u hu).2⟩⟩
mutual
theorem Rep.grow {p p' : Addr → Prop} {w w' : World} (g : zT p w p' w') : ∀ {d : D} {v : Value}, Rep p w d v → Rep p' w' d v
 | .bool _, _, h => by simpa only [Rep] using h
 | .int _ _, _, h => by simpa only [Rep] using h
 | .str _, _, h => by simpa only [Rep] using h
 | .lst l, _, h => by
  simp only [Rep] at h ⊢
  obtain ⟨A, c, xs, h1, h2, h3, h4, h5, h6⟩ := h
  exact ⟨A, c, xs, h1, h2, h3, h4.grow g, zz.grow g h5, h6⟩
 | .full l, _, h => by
  simp only [Rep] at h ⊢
  obtain ⟨A, xs, h1, h3, h4, h5, h6⟩ := h
  exact ⟨A, xs, h1, h3, h4.grow g, zz.grow g h5, h6⟩
 | .own u l, _, h => by
  simp only [Rep] at h ⊢
  obtain ⟨h0, A, c, xs, h1, h2, h3, h4, h5, h6⟩ := h
  exact ⟨h0, A, c, xs, h1, h2, h3, h4.grow g, zz.grow g h5, h6⟩
 | .agg fs, _, h => by
  simp only [Rep] at h ⊢
  obtain ⟨cs, h1, h2, h3⟩ := h
  exact ⟨cs, h1, zz.grow g h2, h3⟩
 | .ptr d, _, h => by
  simp only [Rep] at h ⊢
  obtain ⟨b, o, u, h1, h2, h3, h4⟩ := h
  exact ⟨b, o, u, h1, h2.grow g, Rep.grow g h3, h4⟩
 | .ref _ _ _, _, h => by simpa only [Rep] using h
 | .mref _ _ _ _ _, _, h => by simpa only [Rep] using h
 | .arr _ _ _ _, _, h => by simpa only [Rep] using h
 | .vec _ _, _, h => by simpa only [Rep] using h
 | .clo _ _ _, _, h => by
  simp only [Rep] at h ⊢
  obtain ⟨fs, cs, h1, h2, h3⟩ := h
  exact ⟨fs, cs, h1, zH.grow g h2, zH.grow g h3⟩
 | .nilf, _, h => by simpa only [Rep] using h
 | .nilm, _, h => by simpa only [Rep] using h
 | .nilp, _, h => by simpa only [Rep] using h
 | .map _, _, h => by simpa only [Rep] using h
 | .ifc _ _, _, h => by
  simp only [Rep] at h ⊢
  obtain ⟨u, h1, h2⟩ := h
  exact ⟨u, h1, Rep.grow g h2⟩
 | .nili, _, h => by simpa only [Rep] using h
 | .tup ds, _, h => by
  simp only [Rep] at h ⊢
  obtain ⟨vs, h1, h2⟩ := h
  exact ⟨vs, h1, zH.grow g h2⟩
 | .undef, _, h => by simpa only [Rep] using h
theorem zz.grow {p p' : Addr → Prop} {w w' : World} (g : zT p w p' w') : ∀ {ds : List D} {cs : List Value}, zz p w ds cs → zz p' w' ds cs
 | [], _, h => by simpa only [zz] using h
 | _ :: _, _, h => by
  simp only [zz] at h ⊢
  obtain ⟨v, rest, h1, h2, h3⟩ := h
  exact ⟨v, rest, h1, Rep.grow g h2, zz.grow g h3⟩
theorem zH.grow {p p' : Addr → Prop} {w w' : World} (g : zT p w p' w') : ∀ {ds : List D} {vs : List Value}, zH p w ds vs → zH p' w' ds vs
 | [], _, h => by simpa only [zH] using h
 | _ :: _, _, h => by
  simp only [zH] at h ⊢
  obtain ⟨v, rest, h1, h2, h3⟩ := h
  exact ⟨v, rest, h1, Rep.grow g h2, zH.grow g h3⟩
end
mutual
def sz : D → Nat
 | .agg fs => szs fs
 | _ => 1
def szs : List D → Nat
 | [] => 0
 | d :: ds => sz d + szs ds
end
mutual
theorem Rep.sz {p : Addr → Prop} {w : World} : ∀ {d : D} {v : Value}, Rep p w d v → v.cells.size = sz d
 | .agg fs, _, h => by
  simp only [Rep] at h
  obtain ⟨cs, rfl, h2, _⟩ := h
  simp only [Value.cells, YtamoolpdganckaaGreat.sz, j5]
  exact zz.len h2
 | .bool _, _, h => by simp only [Rep] at h; subst h; rfl
 | .int _ _, _, h => by simp only [Rep] at h; rw [h.1]; rfl
 | .str _, _, h => by simp only [Rep] at h; rw [h.1]; rfl
 | .lst _, _, h => by simp only [Rep] at h; obtain ⟨A, c, xs, rfl, _⟩ := h; rfl
 | .full _, _, h => by simp only [Rep] at h; obtain ⟨A, xs, rfl, _⟩ := h; rfl
 | .own _ _, _, h => by simp only [Rep] at h; obtain ⟨rfl, A, c, xs, rfl, _⟩ := h; rfl
 | .ptr _, _, h => by simp only [Rep] at h; obtain ⟨b, o, u, rfl, _⟩ := h; rfl
 | .ref _ _ _, _, h => by simp only [Rep] at h; subst h; rfl
 | .mref _ _ _ _ _, _, h => by simp only [Rep] at h; subst h; rfl
 | .arr _ _ _ _, _, h => by simp only [Rep] at h; obtain ⟨A, c, rfl, _⟩ := h; rfl
 | .vec _ _, _, h => by simp only [Rep] at h; obtain ⟨rfl, A, c, rfl, _⟩ := h; rfl
 | .clo _ _ _, _, h => by simp only [Rep] at h; obtain ⟨fs, cs, rfl, _⟩ := h; rfl
 | .nilf, _, h => by simp only [Rep] at h; subst h; rfl
 | .nilm, _, h => by simp only [Rep] at h; subst h; rfl
 | .nilp, _, h => by simp only [Rep] at h; subst h; rfl
 | .map _, _, h => by simp only [Rep] at h; subst h; rfl
 | .ifc _ _, _, h => by simp only [Rep] at h; obtain ⟨u, rfl, _⟩ := h; rfl
 | .nili, _, h => by simp only [Rep] at h; subst h; rfl
 | .tup _, _, h => by simp only [Rep] at h; obtain ⟨vs, rfl, _⟩ := h; rfl
 | .undef, _, h => by simp only [Rep] at h; subst h; rfl
theorem zz.len {p : Addr → Prop} {w : World} : ∀ {ds : List D} {cs : List Value}, zz p w ds cs → cs.length = szs ds
 | [], _, h => by simp only [zz] at h; subst h; rfl
 | d :: ds, _, h => by
  simp only [zz] at h
  obtain ⟨v, rest, rfl, h2, h3⟩ := h
  rw [je, zz.len h3, szs, jW, Rep.sz h2]
end
def Wk (d d' : D) : Prop := ∀ p w v, Rep p w d v → Rep p w d' v
theorem Wk.refl (d : D) : Wk d d := fun _ _ _ h => h
theorem Wk.own (u : Value) (l : List D) : Wk (.own u l) (.lst l) := fun p w v h => by
 simp only [Rep] at h ⊢
 obtain ⟨rfl, h⟩ := h
 exact h
theorem Wk.full (l : List D) : Wk (.full l) (.lst l) := fun p w v h => by
 simp only [Rep] at h ⊢
 obtain ⟨A, xs, h1, h3, h4⟩ := h
 exact ⟨A, _, xs, h1, jk _, h3, h4⟩
theorem Wk.ofEq {d d' : D} (h : d = d') : Wk d d' := h ▸ Wk.refl d
def D.plain : D → Bool
 | .tup _ | .undef => false
 | _ => true
theorem Rep.one {p : Addr → Prop} {w : World} {d : D} {v : Value} (h : Rep p w d v) (hp : d.plain = true) : ∀ u ∈ v.cells.toList, u.oneCell' = true := by
 cases d <;> simp only [Rep] at h
 case agg fs =>
  obtain ⟨cs, rfl, _, h3⟩ := h
  simpa [Value.cells] using h3
 case tup => cases hp
 case undef => cases hp
 case bool => subst h; simp [Value.cells, Value.oneCell']
 case int => rw [h.1]; simp [Value.cells, Value.oneCell']
 case str => rw [h.1]; simp [Value.cells, Value.oneCell']
 case lst => obtain ⟨A, c, xs, rfl, _⟩ := h; simp [Value.cells, Value.oneCell']
 case full => obtain ⟨A, xs, rfl, _⟩ := h; simp [Value.cells, Value.oneCell']
 case own => obtain ⟨rfl, A, c, xs, rfl, _⟩ := h; simp [Value.cells, Value.oneCell']
 case ptr => obtain ⟨b, o, u, rfl, _⟩ := h; simp [Value.cells, Value.oneCell']
 case ref => subst h; simp [Value.cells, Value.oneCell']
 case mref => subst h; simp [Value.cells, Value.oneCell']
 case arr => obtain ⟨A, c, rfl, _⟩ := h; simp [Value.cells, Value.oneCell']
 case vec => obtain ⟨rfl, A, c, rfl, _⟩ := h; simp [Value.cells, Value.oneCell']
 case clo => obtain ⟨fs, cs, rfl, _⟩ := h; simp [Value.cells, Value.oneCell']
 case nilf => subst h; simp [Value.cells, Value.oneCell']
 case nilm => subst h; simp [Value.cells, Value.oneCell']
 case nilp => subst h; simp [Value.cells, Value.oneCell']
 case map => subst h; simp [Value.cells, Value.oneCell']
 case ifc => obtain ⟨u, rfl, _⟩ := h; simp [Value.cells, Value.oneCell']
 case nili => subst h; simp [Value.cells, Value.oneCell']
def D.isAgg : D → Bool
 | .agg _ => true
 | _ => false
def yb (d : D) (cs : List Value) : Value := match d with
 | .agg _ => .agg cs.toArray
 | _ => cs.headD Go.undef
theorem Rep.back {p : Addr → Prop} {w : World} {d : D} {v : Value} (h : Rep p w d v) : v = yb d v.cells.toList := by
 cases d <;> simp only [Rep] at h
 case agg fs =>
  obtain ⟨cs, rfl, _, h3⟩ := h
  simp [Value.cells, yb]
 case tup => obtain ⟨vs, rfl, _⟩ := h; simp [Value.cells, yb]
 case undef => subst h; simp [Value.cells, yb, Go.undef]
 case bool => subst h; simp [Value.cells, yb]
 case int => rw [h.1]; simp [Value.cells, yb]
 case str => rw [h.1]; simp [Value.cells, yb]
 case lst => obtain ⟨A, c, xs, rfl, _⟩ := h; simp [Value.cells, yb]
 case full => obtain ⟨A, xs, rfl, _⟩ := h; simp [Value.cells, yb]
 case own => obtain ⟨rfl, A, c, xs, rfl, _⟩ := h; simp [Value.cells, yb]
 case ptr => obtain ⟨b, o, u, rfl, _⟩ := h; simp [Value.cells, yb]
 case ref => subst h; simp [Value.cells, yb]
 case mref => subst h; simp [Value.cells, yb]
 case arr => obtain ⟨A, c, rfl, _⟩ := h; simp [Value.cells, yb]
 case vec => obtain ⟨rfl, A, c, rfl, _⟩ := h; simp [Value.cells, yb]
 case clo => obtain ⟨fs, cs, rfl, _⟩ := h; simp [Value.cells, yb]
 case nilf => subst h; simp [Value.cells, yb]
 case nilm => subst h; simp [Value.cells, yb]
 case nilp => subst h; simp [Value.cells, yb]
 case map => subst h; simp [Value.cells, yb]
 case ifc => obtain ⟨u, rfl, _⟩ := h; simp [Value.cells, yb]
 case nili => subst h; simp [Value.cells, yb]
theorem zz.app {p : Addr → Prop} {w : World} : ∀ {l m : List D} {xs ys : List Value}, zz p w l xs → zz p w m ys → zz p w (l ++ m) (xs ++ ys)
 | [], _, _, _, h, k => by simp only [zz] at h; subst h; simpa using k
 | d :: l, m, _, ys, h, k => by
  simp only [zz] at h
  obtain ⟨v, rest, rfl, h2, h3⟩ := h
  rw [jB, ji]
  simp only [zz]
  exact ⟨v, rest ++ ys, rfl, h2, zz.app h3 k⟩
theorem zz.nil (p : Addr → Prop) (w : World) : zz p w [] [] := by simp only [zz]
theorem zz.cons {p : Addr → Prop} {w : World} {d : D} {l : List D} {v : Value} {ys : List Value} (h : Rep p w d v) (k : zz p w l ys) : zz p w (d :: l) (v.cells.toList ++ ys) := by
 simp only [zz]; exact ⟨v, ys, rfl, h, k⟩
theorem zz.single {p : Addr → Prop} {w : World} {d : D} {v : Value} (h : Rep p w d v) : zz p w [d] v.cells.toList := by simpa using zz.cons h (zz.nil p w)
theorem zH.cons {p : Addr → Prop} {w : World} {d : D} {l : List D} {v : Value} {ys : List Value} (h : Rep p w d v) (k : zH p w l ys) : zH p w (d :: l) (v :: ys) := by
 simp only [zH]; exact ⟨v, ys, rfl, h, k⟩
theorem zH.nil (p : Addr → Prop) (w : World) : zH p w [] [] := by simp only [zH]
theorem zH.app {p : Addr → Prop} {w : World} : ∀ {l m : List D} {xs ys : List Value}, zH p w l xs → zH p w m ys → zH p w (l ++ m) (xs ++ ys)
 | [], _, _, _, h, k => by simp only [zH] at h; subst h; simpa using k
 | d :: l, m, _, ys, h, k => by
  simp only [zH] at h
  obtain ⟨v, rest, rfl, h2, h3⟩ := h
  exact zH.cons h2 (zH.app h3 k)
theorem zH.at_ {p : Addr → Prop} {w : World} : ∀ {l : List D} {vs : List Value} {i : Nat} {d : D}, zH p w l vs → l[i]? = some d → ∃ v, vs[i]? = some v ∧ Rep p w d v
 | [], _, _, _, _, hi => by simp at hi
 | d :: l, _, 0, e, h, hi => by
  simp only [zH] at h
  obtain ⟨v, rest, rfl, h2, h3⟩ := h
  simp at hi; subst hi
  exact ⟨v, rfl, h2⟩
 | d :: l, _, i + 1, e, h, hi => by
  simp only [zH] at h
  obtain ⟨v, rest, rfl, h2, h3⟩ := h
  simp at hi
  obtain ⟨u, h4, h5⟩ := zH.at_ h3 hi
  exact ⟨u, by simpa using h4, h5⟩
theorem zz.at_ {p : Addr → Prop} {w : World} : ∀ {l : List D} {xs : List Value} {i : Nat} {d : D}, zz p w l xs → l[i]? = some d → ∃ v, Rep p w d v ∧ xs = xs.take (szs (l.take i)) ++ v.cells.toList ++ xs.drop (szs (l.take i) + sz d) ∧ (xs.take (szs (l.take i))).length = szs (l.take i)
 | [], _, _, _, _, hi => by simp at hi
 | d :: l, _, 0, e, h, hi => by
  simp only [zz] at h
  obtain ⟨v, rest, rfl, h2, h3⟩ := h
  simp at hi; subst hi
  refine ⟨v, h2, ?_, by simp [szs]⟩
  have hs := Rep.sz h2
  simp only [vG, szs, ju, jo]
  rw [← hs, ← jW, List.drop_left]
 | d :: l, _, i + 1, e, h, hi => by
  simp only [zz] at h
  obtain ⟨v, rest, rfl, h2, h3⟩ := h
  simp at hi
  obtain ⟨u, h4, h5, h6⟩ := zz.at_ h3 hi
  have hs := Rep.sz h2
  have hs' : v.cells.toList.length = sz d := by simpa using hs
  refine ⟨u, h4, ?_, ?_⟩
  simp only [vq, szs]
  have e1 : (v.cells.toList ++ rest).take (sz d + szs (l.take i)) = v.cells.toList ++ rest.take (szs (l.take i)) := by rw [← hs', vb]
  have e2 : (v.cells.toList ++ rest).drop (sz d + szs (l.take i) + sz e) = rest.drop (szs (l.take i) + sz e) := by rw [← hs', jJ, va]
  rw [e1, e2, ji, ji]
  rw [ji] at h5
  rw [← h5]
  simp only [vq, szs]
  rw [← hs', vb, je, h6]
theorem zz.at_cell {p : Addr → Prop} {w : World} {l : List D} {xs : List Value} {i : Nat} {d : D} (h : zz p w l xs) (hi : l[i]? = some d) : ∃ v, Rep p w d v ∧ ∀ j u, v.cells.toList[j]? = some u → xs[szs (l.take i) + j]? = some u := by
 obtain ⟨v, h1, h2, h3⟩ := h.at_ hi
 refine ⟨v, h1, fun j u hu => ?_⟩
 rw [h2, ji, vp oa, h3, Nat.add_sub_cancel_left, jT (jt.1 hu).1]
 exact hu
def zJ (s : Nat) (l : List D) : Prop := ∀ d ∈ l, sz d = s
theorem zJ.szs {s : Nat} : ∀ {l : List D}, zJ s l → szs l = l.length * s
 | [], _ => by simp [YtamoolpdganckaaGreat.szs]
 | d :: l, h => by
  have h1 := h d (jd ..)
  have h2 := zJ.szs (l := l) fun e he => h e (jf _ he)
  simp only [YtamoolpdganckaaGreat.szs, jg, h1, h2, jy, jU]
  omega
theorem zJ.take {s : Nat} {l : List D} (h : zJ s l) (i : Nat) : zJ s (l.take i) := fun d hd => h d (vd hd)
theorem zJ.drop {s : Nat} {l : List D} (h : zJ s l) (i : Nat) : zJ s (l.drop i) := fun d hd => h d (ve hd)
theorem zJ.app {s : Nat} {l m : List D} (h : zJ s l) (k : zJ s m) : zJ s (l ++ m) := fun d hd => (jl.1 hd).elim (h d) (k d)
theorem zJ.nil (s : Nat) : zJ s [] := fun _ h => by cases h
theorem zJ.cons {s : Nat} {d : D} {l : List D} (h : sz d = s) (k : zJ s l) : zJ s (d :: l) := fun e he => (jh.1 he).elim (fun h' => h' ▸ h) (k e)
theorem zz.take {p : Addr → Prop} {w : World} : ∀ {l : List D} {xs : List Value} (i : Nat), zz p w l xs → zz p w (l.take i) (xs.take (szs (l.take i)))
 | l, xs, 0, _ => by simpa [szs] using zz.nil p w
 | [], _, i + 1, h => by simp only [zz] at h; subst h; simpa using zz.nil p w
 | d :: l, _, i + 1, h => by
  simp only [zz] at h
  obtain ⟨v, rest, rfl, h2, h3⟩ := h
  have hs' : v.cells.toList.length = sz d := by simpa using Rep.sz h2
  simp only [vq, szs]
  rw [← hs', vb]
  exact zz.cons h2 (zz.take i h3)
theorem zz.drop {p : Addr → Prop} {w : World} : ∀ {l : List D} {xs : List Value} (i : Nat), zz p w l xs → zz p w (l.drop i) (xs.drop (szs (l.take i)))
 | l, xs, 0, h => by simpa [szs] using h
 | [], _, i + 1, h => by simp only [zz] at h; subst h; simpa using zz.nil p w
 | d :: l, _, i + 1, h => by
  simp only [zz] at h
  obtain ⟨v, rest, rfl, h2, h3⟩ := h
  have hs' : v.cells.toList.length = sz d := by simpa using Rep.sz h2
  simp only [vq, vP, szs]
  rw [← hs', va]
  exact zz.drop i h3
abbrev Env := List (Nat × D)
def lk : Env → Nat → Option D
 | [], _ => none
 | (k, d) :: r, s => bif Nat.beq k s then some d else lk r s
inductive Ob where
 | cell (b : Nat) (d : D)
 | row (u : Value) (n : Nat) (e : TypeId) (s : Nat)
 | arr (b : Nat) (l : List D) (e : TypeId) (s : Nat)
 | vec (u : Value) (l : List D) (e : TypeId) (s : Nat)
 | map (r : Nat) (kv : List (D × D))
 | mapE (r : Nat) (kv : List (D × D)) (es : Array MapEntry) (clock : Nat)
 | iter (b r since : Nat) (seen : Array Nat) (last : Nat)
 | aux (b : Nat) (o : Obj)
 | loop (l : Nat) (env : Env) (L : Loop)
abbrev St := List Ob
def Ob.blk : Ob → Option Nat
 | .cell b _ => some b
 | .row u _ _ _ => u.ownBlock
 | .arr _ [] _ _ => none
 | .arr b (_ :: _) _ _ => some b
 | .vec u _ _ _ => u.ownBlock
 | .map r _ => some r
 | .mapE r _ _ _ => some r
 | .iter b _ _ _ _ => some b
 | .aux b _ => some b
 | .loop l _ _ => some l
def yR (σ : St) : List Nat := σ.filterMap Ob.blk
def z5 (p : Addr → Prop) (w : World) : List (D × D) → List MapEntry → Prop
 | [], es => es = []
 | (k, d) :: kv, es => ∃ e rest, es = e :: rest ∧ Rep p w k e.key ∧ Rep p w d e.val ∧ z5 p w kv rest
theorem z5.grow {p p' : Addr → Prop} {w w' : World} (g : zT p w p' w') : ∀ {kv : List (D × D)} {es : List MapEntry}, z5 p w kv es → z5 p' w' kv es
 | [], _, h => h
 | _ :: _, _, ⟨e, rest, h1, h2, h3, h4⟩ => ⟨e, rest, h1, h2.grow g, h3.grow g, z5.grow g h4⟩
def zbE (p : Addr → Prop) (w : World) : Ob → Prop
 | .cell b d => ∃ v ty, Rep p w d v ∧ d.plain = true ∧ w.heap[b]? = some (.cells v.cells ty (0, 0)) ∧ ∀ a, p a → a.block ≠ b
 | .row u n e s => (∃ xs, w.ownsRow 0 e s u n xs) ∧ ∀ g, u.ownBlock = some g → ∀ a, p a → a.block = g → a.off < n * s
 | .arr b l e s => zJ s l ∧ l.length ≤ 9223372036854775807 ∧ 0 < s ∧ (l = [] ∨ ∃ xs junk, zz p w l xs ∧ (∀ u ∈ xs, u.oneCell' = true) ∧ w.heap[b]? = some (.cells (xs ++ junk).toArray e (0, 0)) ∧ ∀ a, p a → a.block ≠ b)
 | .vec u l e s => zJ s l ∧ 0 < s ∧ (∃ xs, w.ownsRow 0 e s u l.length xs ∧ zz p w l xs ∧ ∀ x ∈ xs, x.oneCell' = true) ∧ ∀ g, u.ownBlock = some g → ∀ a, p a → a.block ≠ g
 | .map r kv => ∃ es clock, w.heap[r]? = some (.map es clock) ∧ z5 p w kv es.toList ∧ kv.length ≤ 9223372036854775807 ∧ (es.toList.map (·.born)).Nodup ∧ ∀ e ∈ es.toList, e.born < clock
 | .mapE r kv es clock => w.heap[r]? = some (.map es clock) ∧ z5 p w kv es.toList ∧ kv.length ≤ 9223372036854775807 ∧ (es.toList.map (·.born)).Nodup ∧ ∀ e ∈ es.toList, e.born < clock
 | .iter b r since seen last => w.heap[b]? = some (.mapIter (some r) since seen last)
 | .aux b o => w.heap[b]? = some o
 | .loop l env L => w.heap[l]? = some (.loop L) ∧ ∀ t d, lk env t = some d → Rep p w d (L.tmps.getD t Go.undef)
structure Ctx where
 w0 : World
 p0 : Addr → Prop
 F0 : Nat → Prop
 X : D → St → Prop := fun _ _ => False
structure Inv (K : Ctx) (p : Addr → Prop) (σ : St) (w : World) : Prop where
 ok : ∀ o ∈ σ, zbE p w o
 nd : (yR σ).Nodup
 mine : ∀ b ∈ yR σ, K.w0.heap.size ≤ b ∨ K.F0 b
 pub : ∀ a, p a → ∃ v, w.cell? a = some v
 gr : zT K.p0 K.w0 p w
 neu : ∀ a, p a → K.p0 a ∨ K.w0.heap.size ≤ a.block ∨ K.F0 a.block
 os : w.os = K.w0.os
 tape : w.tape = K.w0.tape
 output : w.output = K.w0.output
 size : K.w0.heap.size ≤ w.heap.size
 block : ∀ b, b < K.w0.heap.size → ¬ K.F0 b → w.heap[b]? = K.w0.heap[b]?
theorem qoW {w : World} {a : Addr} {v : Value} (h : w.cell? a = some v) : a.block < w.heap.size := World.block_lt_of_cell? w a h
theorem qju {w w' : World} {a : Addr} (h : w'.heap[a.block]? = w.heap[a.block]?) : w'.cell? a = w.cell? a := World.cell?_of_block h
theorem zbE.lt {p : Addr → Prop} {w : World} {o : Ob} (h : zbE p w o) {b : Nat} (hb : o.blk = some b) : b < w.heap.size := by
 cases o with
 | cell b' d =>
  obtain ⟨v, ty, _, _, h3, _⟩ := h
  simp only [Ob.blk, Option.some.injEq] at hb
  subst hb
  exact (jE.1 h3).1
 | row u n e s =>
  obtain ⟨⟨xs, h1⟩, _⟩ := h
  exact (h1.lt b hb).2
 | arr b' l e s =>
  obtain ⟨_, _, _, h⟩ := h
  cases l with
  | nil => simp [Ob.blk] at hb
  | cons x l =>
   obtain ⟨xs, junk, _, _, h3, _⟩ := h.resolve_left og
   simp only [Ob.blk, Option.some.injEq] at hb
   subst hb
   exact (jE.1 h3).1
 | vec u l e s =>
  obtain ⟨_, _, ⟨xs, h1, _⟩, _⟩ := h
  exact (h1.lt b hb).2
 | map r kv =>
  obtain ⟨es, cl, h3, _⟩ := h
  simp only [Ob.blk, Option.some.injEq] at hb
  subst hb
  exact (jE.1 h3).1
 | mapE r kv es cl =>
  obtain ⟨h3, _⟩ := h
  simp only [Ob.blk, Option.some.injEq] at hb
  subst hb
  exact (jE.1 h3).1
 | iter b' r s seen l =>
  simp only [Ob.blk, Option.some.injEq] at hb
  subst hb
  exact (jE.1 (show w.heap[b']? = some _ from h)).1
 | aux b' o =>
  simp only [Ob.blk, Option.some.injEq] at hb
  subst hb
  exact (jE.1 (show w.heap[b']? = some _ from h)).1
 | loop b' env L =>
  simp only [Ob.blk, Option.some.injEq] at hb
  subst hb
  exact (jE.1 (show w.heap[b']? = some _ from h.1)).1
theorem zbE.keep {p p' : Addr → Prop} {w w' : World} {o : Ob} (h : zbE p w o) (g : zT p w p' w') (hh : ∀ b, o.blk = some b → w'.heap[b]? = w.heap[b]?) (hp : ∀ a b, p' a → o.blk = some b → a.block = b → p a) : zbE p' w' o := by
 cases o with
 | cell b d =>
  obtain ⟨v, ty, h1, h2, h3, h4⟩ := h
  exact ⟨v, ty, h1.grow g, h2, (hh b rfl).trans h3, fun a ha hb => h4 a (hp a b ha rfl hb) hb⟩
 | row u n e s =>
  obtain ⟨⟨xs, h1, h2⟩, h3⟩ := h
  refine ⟨⟨xs, h1, ?_⟩, fun g' hg a ha hb => h3 g' hg a (hp a g' ha hg hb) hb⟩
  rcases h2 with h2 | ⟨g', cap, cur, rfl, h4, h5, h6⟩
  exact .inl h2
  exact .inr ⟨g', cap, cur, rfl, h4, (hh g' rfl).trans h5, h6⟩
 | arr b l e s =>
  obtain ⟨h1, h2, h0, h⟩ := h
  refine ⟨h1, h2, h0, ?_⟩
  cases l with
  | nil => exact .inl rfl
  | cons x l =>
   obtain ⟨xs, junk, h3, h4, h5, h6⟩ := h.resolve_left og
   exact .inr ⟨xs, junk, h3.grow g, h4, (hh b rfl).trans h5, fun a ha hb => h6 a (hp a b ha rfl hb) hb⟩
 | vec u l e s =>
  obtain ⟨h1, h2, ⟨xs, ⟨h3, h4⟩, h5, h6⟩, h7⟩ := h
  refine ⟨h1, h2, ⟨xs, ⟨h3, ?_⟩, h5.grow g, h6⟩, fun g' hg a ha hb => h7 g' hg a (hp a g' ha hg hb) hb⟩
  rcases h4 with h4 | ⟨g', cap, cur, rfl, k1, k2, k3⟩
  exact .inl h4
  exact .inr ⟨g', cap, cur, rfl, k1, (hh g' rfl).trans k2, k3⟩
 | map r kv =>
  obtain ⟨es, cl, h3, h4, h5⟩ := h
  exact ⟨es, cl, (hh r rfl).trans h3, h4.grow g, h5⟩
 | mapE r kv es cl =>
  obtain ⟨h3, h4, h5⟩ := h
  exact ⟨(hh r rfl).trans h3, h4.grow g, h5⟩
 | iter b r s seen l => exact (hh b rfl).trans h
 | aux b o => exact (hh b rfl).trans h
 | loop b env L => exact ⟨(hh b rfl).trans h.1, fun t d ht => (h.2 t d ht).grow g⟩
theorem qhG {σ : St} {b : Nat} : b ∈ yR σ ↔ ∃ o ∈ σ, o.blk = some b := by simp [yR, List.mem_filterMap]
theorem qjQ (σ τ : St) : yR (σ ++ τ) = yR σ ++ yR τ := by simp [yR]
theorem quN {σ τ : St} (h : σ.Perm τ) : (yR σ).Perm (yR τ) := h.filterMap _
theorem Inv.lt {K : Ctx} {p : Addr → Prop} {σ : St} {w : World} (h : Inv K p σ w) {b : Nat} (hb : b ∈ yR σ) : b < w.heap.size := by
 obtain ⟨o, ho, hb⟩ := qhG.1 hb
 exact (h.ok o ho).lt hb
theorem Inv.perm {K : Ctx} {p : Addr → Prop} {σ τ : St} {w : World} (h : Inv K p σ w) (hp : σ.Perm τ) : Inv K p τ w :=
 ⟨fun o ho => h.ok o (hp.mem_iff.2 ho), (quN hp).nodup_iff.1 h.nd, fun b hb => h.mine b ((quN hp).mem_iff.2 hb), h.pub, h.gr, h.neu, h.os, h.tape, h.output, h.size, h.block⟩
theorem Inv.less {K : Ctx} {p : Addr → Prop} {σ τ : St} {w : World} (h : Inv K p (σ ++ τ) w) : Inv K p σ w := by
 have hn := h.nd
 rw [qjQ] at hn
 exact ⟨fun o ho => h.ok o (jr _ ho), (jH.1 hn).1, fun b hb => h.mine b (by rw [qjQ]; exact jr _ hb), h.pub, h.gr, h.neu, h.os, h.tape, h.output, h.size, h.block⟩
def ctx (w : World) (p : Addr → Prop) (σ : St) : Ctx := { w0 := w, p0 := p, F0 := fun b => b ∈ yR σ }
theorem Inv.enter {K : Ctx} {p : Addr → Prop} {σ τ : St} {w : World} (h : Inv K p (σ ++ τ) w) : Inv (ctx w p σ) p σ w :=
 let h' := h.less
 ⟨h'.ok, h'.nd, fun _ hb => .inr hb, h.pub, zT.refl p w, fun _ ha => .inl ha, rfl, rfl, rfl, jk _, fun _ _ _ => rfl⟩
theorem Inv.leave {K : Ctx} {p p' : Addr → Prop} {σ σ' τ : St} {w w' : World} (h : Inv K p (σ ++ τ) w) (h' : Inv (ctx w p σ) p' σ' w') : Inv K p' (σ' ++ τ) w' := by
 have hn := h.nd
 rw [qjQ] at hn
 obtain ⟨hn1, hn2, hn3⟩ := jH.1 hn
 have ht : ∀ o ∈ τ, ∀ b, o.blk = some b → b < w.heap.size ∧ b ∉ yR σ := fun o ho b hb => ⟨(h.ok o (jz _ ho)).lt hb, fun hm => hn3 b hm b (qhG.2 ⟨o, ho, hb⟩) rfl⟩
 refine ⟨fun o ho => ?_, ?_, fun b hb => ?_, h'.pub, h.gr.tr h'.gr, fun a ha => ?_, h'.os.trans h.os, h'.tape.trans h.tape, h'.output.trans h.output, vt h.size h'.size, fun b hb hF => ?_⟩
 rcases jl.1 ho with ho | ho
 exact h'.ok o ho
 refine (h.ok o (jz _ ho)).keep h'.gr (fun b hb => h'.block b (ht o ho b hb).1 (ht o ho b hb).2) fun a b ha hb hab => ?_
 rcases h'.neu a ha with h1 | h1 | h1
 exact h1
 have := (ht o ho b hb).1
 simp only [ctx] at h1
 omega
 exact absurd (hab ▸ h1) (ht o ho b hb).2
 rw [qjQ]
 refine jH.2 ⟨h'.nd, hn2, fun a ha b hb hab => ?_⟩
 subst hab
 obtain ⟨o, ho, hb⟩ := qhG.1 hb
 rcases h'.mine a ha with h1 | h1
 have := (ht o ho a hb).1
 simp only [ctx] at h1
 omega
 exact (ht o ho a hb).2 h1
 rw [qjQ] at hb
 rcases jl.1 hb with hb | hb
 rcases h'.mine b hb with h1 | h1
 exact .inl (vt h.size h1)
 exact h.mine b (by rw [qjQ]; exact jr _ h1)
 exact h.mine b (by rw [qjQ]; exact jz _ hb)
 rcases h'.neu a ha with h1 | h1 | h1
 exact h.neu a h1
 exact .inr (.inl (vt h.size h1))
 exact .inr (h.mine _ (by rw [qjQ]; exact jr _ h1))
 refine (h'.block b (vi hb h.size) fun hm => ?_).trans (h.block b hb hF)
 rcases h.mine b (by rw [qjQ]; exact jr _ hm) with h1 | h1
 omega
 exact hF h1
def Left (K : Ctx) (R : D → St → Prop) (e : Ending) (w : World) : Prop := (∃ v d σ p, e = .returned v ∧ R d σ ∧ Rep p w d v ∧ Inv K p σ w) ∨ ∃ v d σ p, e = .panicked [{ v, recovered := false }] ∧ K.X d σ ∧ Rep p w d v ∧ Inv K p σ w
def Spec (P : Program) (f : FuncId) (ds : List D) (σ : St) (R : D → St → Prop) : Prop :=
 ∀ (w : World) (p : Addr → Prop) (vs : List Value), Inv (ctx w p σ) p σ w → zH p w ds vs → Calls P f vs.toArray w (Left (ctx w p σ) R)
def zf (P : Program) (f : FuncId) (ds : List D) (d : D) : Prop := Spec P f ds [] fun d' _ => d' = d
/-! ### small steps of the state -/
section
variable {K : Ctx} {p : Addr → Prop} {σ : St} {w : World}
theorem qhs (p : Addr → Prop) (w : World) : zT p w p w.drew := fun _ ha => ⟨ha, rfl⟩
theorem Inv.drew (h : Inv K p σ w) : Inv K p σ w.drew := ⟨fun o ho => (h.ok o ho).keep (qhs p w) (fun _ _ => rfl) fun _ _ ha _ _ => ha, h.nd, h.mine, h.pub, h.gr.tr (qhs p w), h.neu, h.os, h.tape, h.output, h.size, h.block⟩
theorem qgy (hp : ∀ a, p a → ∃ v, w.cell? a = some v) (o : Obj) : zT p w p (w.alloc o) := fun a ha => ⟨ha, by
 obtain ⟨v, hv⟩ := hp a ha
 exact qju (Below.heap_alloc w o _ (qoW hv))⟩
theorem Inv.alloc (h : Inv K p σ w) (o : Obj) : Inv K p σ (w.alloc o) := by
 have g := qgy h.pub o
 refine ⟨fun o' ho => ?_, h.nd, h.mine, fun a ha => ?_, h.gr.tr g, h.neu, h.os, h.tape, h.output, vt h.size og, fun b hb hF => (Below.heap_alloc w o b (vi hb h.size)).trans (h.block b hb hF)⟩
 exact (h.ok o' ho).keep g (fun b hb => Below.heap_alloc w o b ((h.ok o' ho).lt hb)) fun a _ ha _ _ => ha
 obtain ⟨v, hv⟩ := h.pub a ha
 exact ⟨v, ((g a ha).2).trans hv⟩
theorem Inv.give (h : Inv K p σ w) (q : Addr → Prop) (hq : ∀ a, q a → (∃ v, w.cell? a = some v) ∧ (K.w0.heap.size ≤ a.block ∨ K.F0 a.block) ∧ ∀ o ∈ σ, ∀ b, o.blk = some b → a.block = b → p a) : Inv K (fun a => p a ∨ q a) σ w := by
 have g : zT p w (fun a => p a ∨ q a) w := fun a ha => ⟨.inl ha, rfl⟩
 refine ⟨fun o ho => ?_, h.nd, h.mine, fun a ha => ?_, h.gr.tr g, fun a ha => ?_, h.os, h.tape, h.output, h.size, h.block⟩
 exact (h.ok o ho).keep g (fun _ _ => rfl) fun a b ha hb hab => ha.elim id fun h' => (hq a h').2.2 o ho b hb hab
 exact ha.elim (h.pub a) fun h' => (hq a h').1
 exact ha.elim (h.neu a) fun h' => .inr (hq a h').2.1
theorem ql1 (p q : Addr → Prop) (w : World) : zT p w (fun a => p a ∨ q a) w := fun a ha => ⟨.inl ha, rfl⟩
theorem Inv.more (h : Inv K p σ w) {o : Ob} (ho : zbE p w o) (hb : ∀ b, o.blk = some b → (K.w0.heap.size ≤ b ∨ K.F0 b) ∧ b ∉ yR σ) : Inv K p (o :: σ) w := by
 refine ⟨fun o' ho' => (jh.1 ho').elim (fun e => e ▸ ho) (h.ok o'), ?_, fun b hb' => ?_, h.pub, h.gr, h.neu, h.os, h.tape, h.output, h.size, h.block⟩
 cases hx : o.blk with
 | none => simpa [yR, hx] using h.nd
 | some b =>
  have := (hb b hx).2
  simp only [yR] at this ⊢
  simp only [j6, hx, jP]
  exact ⟨this, h.nd⟩
 obtain ⟨o', ho', hx⟩ := qhG.1 hb'
 rcases jh.1 ho' with rfl | ho'
 exact (hb b hx).1
 exact h.mine b (qhG.2 ⟨o', ho', hx⟩)
theorem Inv.tail {o : Ob} (h : Inv K p (o :: σ) w) : Inv K p σ w := (h.perm (List.perm_append_comm (l₁ := [o]) (l₂ := σ))).less
theorem Inv.write {o o' : Ob} {w' : World} {p' : Addr → Prop} {b : Nat} (h : Inv K p (o :: σ) w) (hb : o.blk = some b) (hb' : o'.blk = some b) (g : zT p w p' w') (hnew : ∀ a, p' a → p a ∨ a.block = b) (ho : zbE p' w' o') (hpub : ∀ a, p' a → ∃ v, w'.cell? a = some v)
 (hos : w'.os = w.os) (ht : w'.tape = w.tape) (hou : w'.output = w.output) (hsz : w'.heap.size = w.heap.size) (hbl : ∀ k, k ≠ b → w'.heap[k]? = w.heap[k]?) : Inv K p' (o' :: σ) w' := by
 have hn := h.nd
 have hm := h.mine b (qhG.2 ⟨o, jd .., hb⟩)
 have hne : b ∉ yR σ := by
  simp only [yR, j6, hb, jP] at hn
  exact hn.1
 have key : ∀ o'' ∈ σ, ∀ k, o''.blk = some k → k ≠ b := fun o'' ho'' k hk e => hne (qhG.2 ⟨o'', ho'', e ▸ hk⟩)
 refine ⟨fun o'' ho'' => ?_, ?_, fun k hk => ?_, hpub, h.gr.tr g, fun a ha => ?_, hos.trans h.os, ht.trans h.tape, hou.trans h.output, hsz ▸ h.size, fun k hk hF => ?_⟩
 · rcases jh.1 ho'' with rfl | ho''
   · exact ho
   · exact (h.tail.ok o'' ho'').keep g (fun k hk => hbl k (key o'' ho'' k hk)) fun a k ha hk hak => (hnew a ha).resolve_right fun e => key o'' ho'' k hk (hak ▸ e)
 · simp only [yR, j6, hb, hb', jP] at hn ⊢
   exact hn
 · obtain ⟨o'', ho'', hx⟩ := qhG.1 hk
   rcases jh.1 ho'' with rfl | ho''
   · rw [hb'] at hx; injection hx with hx; exact hx ▸ hm
   · exact h.mine k (qhG.2 ⟨o'', jf _ ho'', hx⟩)
 · rcases hnew a ha with h1 | h1
   · exact h.neu a h1
   · rw [h1]; exact .inr hm
 · refine (hbl k fun e => ?_).trans (h.block k hk hF)
   subst e
   rcases hm with h1 | h1
   · omega
   · exact hF h1
end
def zaL : Value → Option D
 | .bool b => some (.bool b)
 | .int k n => some (.int k n)
 | .string s => some (.str s)
 | .slice none 0 0 => some (.full [])
 | .nilFunc => some .nilf
 | .map none => some .nilm
 | .pointer none => some .nilp
 | .nilIface => some .nili
 | _ => none
def ev (env : Env) : Operand → Option D
 | .tmp t => lk env t
 | .const v => zaL v
 | .func f => some (.clo (.func f) [] [])
 | .global _ => none
def zbL : Value → Bool
 | .int k n => k.wrap n == n
 | .string s => decide (s.size ≤ 9223372036854775807)
 | _ => true
def zaJ : Operand → Bool
 | .const v => zbL v
 | _ => true
def zW (p : Addr → Prop) (w : World) (env : Env) (a : Act) : Prop := ∀ t d, lk env t = some d → Rep p w d (a.tmps.getD t Go.undef)
theorem zW.grow {p p' : Addr → Prop} {w w' : World} {env : Env} {a : Act} (h : zW p w env a) (g : zT p w p' w') : zW p' w' env a := fun t d ht => (h t d ht).grow g
theorem qsP {p : Addr → Prop} {w : World} {v : Value} {d : D} (h : zaL v = some d) (ho : zbL v = true) : Rep p w d v := by
 unfold zaL at h
 split at h <;> first | (injection h with h; subst h) | (cases h; done)
 simp only [Rep]
 simpa [Rep, zbL] using ho
 simpa [Rep, zbL] using ho
 simp only [Rep]; exact ⟨none, [], rfl, by simp, .inl rfl, zz.nil _ _, by simp⟩
 simp only [Rep]
 simp only [Rep]
 simp only [Rep]
 simp only [Rep]
theorem qEB {p : Addr → Prop} {w : World} {env : Env} {a : Act} (h : zW p w env a) {x : Operand} {d : D} (hx : ev env x = some d) (ho : zaJ x = true) : Rep p w d (a.eval x) := by
 cases x with
 | tmp t => exact h t d hx
 | const v => exact qsP hx ho
 | func f =>
  injection hx with hx
  subst hx
  simp only [Rep]
  exact ⟨[], [], rfl, zH.nil _ _, zH.nil _ _⟩
 | global g => cases hx
theorem qiY (k : Nat) (d : D) (env : Env) (s : Nat) : lk ((k, d) :: env) s = if k = s then some d else lk env s := by
 simp only [lk]
 by_cases h : k = s
 subst h; simp
 rw [if_neg h]
 have : Nat.beq k s = false := by
  cases hb : Nat.beq k s
  rfl
  exact absurd (Nat.eq_of_beq_eq_true hb) h
 rw [this]; rfl
def Env.put (env : Env) (dst : Option Tmp) (d : D) : Env := match dst with
 | some t => (t, d) :: env
 | none => env
theorem zW.put {p : Addr → Prop} {w : World} {env : Env} {a : Act} {dst : Option Tmp} {d : D} {v : Value} (h : zW p w env a) (hv : Rep p w d v) (hd : ∀ t, dst = some t → t < a.tmps.size) : zW p w (env.put dst d) (a.put dst v) := by
 cases dst with
 | none => exact h
 | some t =>
  intro s e hs
  rw [Env.put, qiY] at hs
  simp only [Act.put]
  by_cases hts : t = s
  subst hts
  rw [if_pos rfl] at hs
  injection hs with hs
  subst hs
  simpa [hd t rfl] using hv
  rw [if_neg hts] at hs
  have := h s e hs
  simpa [Array.getElem?_setIfInBounds_ne hts] using this
def Sub (env' env : Env) : Prop := ∀ t d, lk env' t = some d → ∃ e, lk env t = some e ∧ Wk e d
theorem Sub.nil (env : Env) : Sub [] env := fun _ _ h => by cases h
theorem Sub.cons {env' env : Env} {k : Nat} {d e : D} (h : lk env k = some e) (hw : Wk e d) (hs : Sub env' env) : Sub ((k, d) :: env') env := fun t d' ht => by
 rw [qiY] at ht
 by_cases hk : k = t
 subst hk
 rw [if_pos rfl] at ht
 injection ht with ht
 subst ht
 exact ⟨e, h, hw⟩
 rw [if_neg hk] at ht
 exact hs t d' ht
theorem Sub.cons' {env' env : Env} {k : Nat} {d : D} (h : lk env k = some d) (hs : Sub env' env) : Sub ((k, d) :: env') env := Sub.cons h (Wk.refl d) hs
theorem sc {env' env : Env} {k : Nat} {d : D} (h : lk env k = some d) (hs : Sub env' env) : Sub ((k, d) :: env') env := Sub.cons' h hs
theorem zW.sub {p : Addr → Prop} {w : World} {env env' : Env} {a : Act} (h : zW p w env a) (hs : Sub env' env) : zW p w env' a := fun t d ht =>
 let ⟨e, h1, h2⟩ := hs t d ht
 h2 _ _ _ (h t e h1)
theorem zbk (b o k : Nat) : (⟨b, o, none⟩ : Addr).add k = ⟨b, o + k, none⟩ := by
 unfold Addr.add; split
 rename_i h; simp [h]
 rfl
structure Md where
 rd : Option Nat
 ms : List Nat
 ds : List Deferred
 kd : CallKind
abbrev Md.top : Md := ⟨none, [], [], .normal⟩
def zag (kd : CallKind) (P : Program) (fr : Frame) (w : World) : Ending → Prop
 | .returned v => fr.mode = .returning ∧ fr.defers = [] ∧ fr.kind = kd ∧ ∃ fn, P.funcs[fr.fn]? = some fn ∧ (results fn fr.tmps).run P w = .ok v w
 | .panicked chain => fr.mode = .panicking chain ∧ fr.defers = [] ∧ ∃ fn, P.funcs[fr.fn]? = some fn
 | .outgrown => True
theorem zag.normal {P : Program} {fr : Frame} {w : World} {e : Ending} (h : zag .normal P fr w e) : fr.leaving P w e := by
 cases e with
 | returned v => exact h
 | panicked c => exact h
 | outgrown => trivial
def Md.marks (m : Md) : List Deferred := m.ds ++ m.ms.map fun D => { target := .collected D, args := #[] }
def Fin (rd : Option Nat) (kd : CallKind) (P : Program) (f : FuncId) (K : Ctx) (R : D → St → Prop) (fr0 : Frame) (cs : List Frame) (w : World) : Prop :=
 match rd with
 | none => ∃ e w' fr, Left K R e w' ∧ Comes P (lone fr0 cs w) (lone fr cs w') e ∧ fr.fn = f ∧ zag kd P fr w' e
 | some _ => ∀ c cs', cs = c :: cs' → ∃ v w', Left K R (.returned v) w' ∧ Steps P (lone fr0 cs w) (lone (c.finish v) cs' w')
theorem Fin.of_steps {rd : Option Nat} {kd : CallKind} {P : Program} {f : FuncId} {K : Ctx} {R : D → St → Prop} {fr0 fr1 : Frame} {cs : List Frame} {w w1 : World} (hs : Steps P (lone fr0 cs w) (lone fr1 cs w1)) (h : Fin rd kd P f K R fr1 cs w1) : Fin rd kd P f K R fr0 cs w := by
 cases rd with
 | none =>
  obtain ⟨e, w', fr, h1, h2, h3, h4⟩ := h
  exact ⟨e, w', fr, h1, .of_steps hs h2, h3, h4⟩
 | some l =>
  intro c cs' hc
  obtain ⟨v, w', h1, h2⟩ := h c cs' hc
  exact ⟨v, w', h1, hs.trans h2⟩
def Rest (m : Md) (P : Program) (f : FuncId) (fn : Func) (K : Ctx) (R : D → St → Prop) (k : List Item) (a : Act) (w : World) : Prop :=
 ∀ (b : Frame) (cs : List Frame), b.fn = f → b.kind = m.kd → b.roundOf = m.rd → P.funcs[f]? = some fn → Fin m.rd m.kd P f K R (b.atR a k) cs w
def zk (m : Md) (P : Program) (f : FuncId) (fn : Func) (K : Ctx) (R : D → St → Prop) (k : List Item) (env : Env) (σ : St) : Prop :=
 ∀ (p : Addr → Prop) (a : Act) (w : World), Inv K p σ w → zW p w env a → fn.ntmps ≤ a.tmps.size → a.defers = m.marks → Rest m P f fn K R k a w
abbrev Goes (P : Program) (f : FuncId) (fn : Func) (K : Ctx) (R : D → St → Prop) (k : List Item) : Env → St → Prop := zk Md.top P f fn K R k
def fw : Option Nat → Fence
 | none => Fence.wide
 | some l => Fence.wide.inRound l
theorem qBD (rd : Option Nat) : (fw rd).round = rd := by cases rd <;> rfl
theorem quG (rd : Option Nat) (f : FuncId) : (fw rd).fn f := by cases rd <;> trivial
theorem qDG (rd : Option Nat) (n : Nat) : (fw rd).room n := by cases rd <;> exact room_wide _
theorem qxc {rd : Option Nat} {P : Program} {m m' : Machine} (h : StepsIn (Machine.fenced P (fw rd)) P m m') : Steps P m m' := by
 cases rd <;> exact stepsIn_wide.1 h
theorem qBA {rd : Option Nat} {n : Nat} {P : Program} {f : FuncId} {args : Array Value} {w : World} {R : Ending → World → Prop} (h : Calls P f args w R) : CallsIn (fw rd) n P f args w R := by
 cases rd with
 | none => exact callsIn_wide.2 h
 | some l => exact CallsIn.inRound l (callsIn_wide.2 h)
section
variable {m : Md} {P : Program} {f : FuncId} {fn : Func} {K : Ctx} {R : D → St → Prop} {k : List Item} {env : Env} {σ : St}
theorem qqr {k' : List Item} (hs : ∀ (b : Frame) (a : Act) (cs : List Frame) (w : World), step P (lone (b.atR a k) cs w) = .next (lone (b.atR a k') cs w)) (h : zk m P f fn K R k' env σ) : zk m P f fn K R k env σ :=
 fun p a w hi hr hn hd b cs hb hk hro hf => .of_steps (.one (hs b a cs w)) (h p a w hi hr hn hd b cs hb hk hro hf)
theorem qai {x y : Code} (h : zk m P f fn K R (.code x :: .code y :: k) env σ) : zk m P f fn K R (.code (.seq x y) :: k) env σ := qqr (fun _ _ _ _ => stepR_seq) h
theorem qnH (h : zk m P f fn K R k env σ) : zk m P f fn K R (.code .skip :: k) env σ := qqr (fun _ _ _ _ => stepR_skip) h
theorem qfZ {id : Nat} (h : zk m P f fn K R k env σ) : zk m P f fn K R (.inBlock id :: k) env σ := qqr (fun _ _ _ _ => stepR_inBlock) h
theorem qy {id : Nat} {c : Code} (h : zk m P f fn K R (.code c :: .inBlock id :: k) env σ) : zk m P f fn K R (.code (.block id c) :: k) env σ := qqr (fun _ _ _ _ => stepR_block) h
theorem qnJ {id : Nat} {k' : List Item} (he : exitTo id k = some k') (h : zk m P f fn K R k' env σ) : zk m P f fn K R (.code (.exit id) :: k) env σ := qqr (fun _ _ _ _ => stepR_exit he) h
theorem qBV {c : Code} (h : zk m P f fn K R (.code c :: .inLoop c :: k) env σ) : zk m P f fn K R (.inLoop c :: k) env σ := qqr (fun _ _ _ _ => stepR_inLoop) h
theorem qsk {c : Operand} {x y : Code} {t : Bool} (hc : ev env c = some (.bool t)) (ho : zaJ c = true) (h1 : t = true → zk m P f fn K R (.code x :: k) env σ) (h2 : t = false → zk m P f fn K R (.code y :: k) env σ) : zk m P f fn K R (.code (.cond c x y) :: k) env σ :=
 fun p a w hi hr hn hd b cs hb hk hro hf => by
  have hv := qEB hr hc ho
  simp only [Rep] at hv
  have hs := stepR_cond (P := P) (b := b) (k := k) (cs := cs) (w := w) (x := x) (y := y) hv
  cases t with
  | true => exact .of_steps (.one hs) (h1 rfl p a w hi hr hn hd b cs hb hk hro hf)
  | false => exact .of_steps (.one hs) (h2 rfl p a w hi hr hn hd b cs hb hk hro hf)
theorem qR {c : Code} (I : Nat → Env → St → Prop) (n : Nat) (h0 : I n env σ) (round : ∀ n env σ, I n env σ → (∀ m' env' σ', m' < n → I m' env' σ' → zk m P f fn K R (.inLoop c :: k) env' σ') → zk m P f fn K R (.code c :: .inLoop c :: k) env σ) : zk m P f fn K R (.code (.loop c) :: k) env σ := by
 refine qqr (fun _ _ _ _ => stepR_loop) ?_
 have key : ∀ n env σ, I n env σ → zk m P f fn K R (.code c :: .inLoop c :: k) env σ := by
  intro n
  induction n using Nat.strongRecOn with
  | _ n ih => exact fun env σ hI => round n env σ hI fun m env' σ' hm hI' => qBV (ih m hm env' σ' hI')
 exact key n env σ h0
theorem quB (env' : Env) (hs : Sub env' env) (h : zk m P f fn K R k env' σ) : zk m P f fn K R k env σ := fun p a w hi hr => h p a w hi (hr.sub hs)
theorem qbA (σ' τ : St) (hs : σ.Perm (σ' ++ τ)) (h : zk m P f fn K R k env σ') : zk m P f fn K R k env σ := fun p a w hi => h p a w ((hi.perm hs).less)
def zbi (P : Program) (K : Ctx) (n : Nat) (m : Md) (X : Env → D → St → Prop) (Q : Env → St → Prop) : Exit → Act → World → Prop := fun e a' w' =>
 (e = .normal ∧ ∃ env' σ' p', Q env' σ' ∧ Inv K p' σ' w' ∧ zW p' w' env' a' ∧ n ≤ a'.tmps.size ∧ a'.defers = m.marks) ∨ ∃ v d τ p' env', e = .panic [{ v, recovered := false }] ∧ X env' d τ ∧ Rep p' w' d v ∧ Inv K p' τ w' ∧ zW p' w' env' a' ∧ a'.defers = m.marks
theorem qpJ {id : Nat} {ops : Array Oper} {dr : Bool} {Q : Env → St → Prop} {X : Env → D → St → Prop} (h : ∀ (p : Addr → Prop) (a : Act) (w : World), Inv K p σ w → zW p w env a → fn.ntmps ≤ a.tmps.size → a.defers = m.marks → (Code.region id ops dr).wpIn (fw m.rd) 0 P (zbi P K fn.ntmps m X Q) a w)
 (hX : ∀ e d τ, X e d τ → K.X d τ ∧ m = Md.top) (hq : ∀ env' σ', Q env' σ' → zk m P f fn K R k env' σ') : zk m P f fn K R (.code (.region id ops dr) :: k) env σ := fun p a w hi hr hn hd b cs hb hk hro hf => by
 obtain ⟨e, a', w', hE, harr⟩ := h p a w hi hr hn hd b k cs (hro.trans (qBD _).symm) (quG _ _) (qDG _ _)
 rcases hE with ⟨rfl, env', σ', p', q, i1, i2, i3, i4⟩ | ⟨v, d, τ, p', env', rfl, hx, hv, hi', _, hd'⟩
 · exact .of_steps (qxc harr) (hq env' σ' q p' a' w' i1 i2 i3 i4 b cs hb hk hro hf)
 · obtain ⟨todo, hs⟩ := harr
   obtain ⟨hx, rfl⟩ := hX env' d τ hx
   exact ⟨.panicked [{ v, recovered := false }], w', { b.atR a' todo with mode := .panicking [{ v, recovered := false }] }, .inr ⟨v, d, τ, p', rfl, hx, hv, hi'⟩, qxc hs, hb, rfl, hd', fn, by rw [← hb] at hf; exact hf⟩
theorem qsj {C : Prop} (hC : ∀ (p : Addr → Prop) (a : Act) (w : World), Inv K p σ w → zW p w env a → C) (h : C → zk m P f fn K R k env σ) : zk m P f fn K R k env σ := fun p a w hi hr => h (hC p a w hi hr) p a w hi hr
/-! ### the end -/
def zaF : TypeDesc → Bool
 | .struct _ | .array _ _ => true
 | _ => false
def Ty (P : Program) (t : TypeId) (b : Bool) (n : Nat) : Prop := (∃ x, P.underlying t = some x ∧ zaF x = b) ∧ (P.info? t).map (·.size) = some n
theorem qAB {t : TypeId} {b : Bool} {n : Nat} (h : Ty P t b n) (w : World) : (isAgg t).run P w = .ok b w := by
 obtain ⟨⟨x, hx, hb⟩, _⟩ := h
 unfold isAgg
 simp only [Sem.run_bind, run_underlying hx, Result.andThen_ok]
 cases x <;> simp_all [zaF]
theorem qxS {t : TypeId} {b : Bool} {n : Nat} (h : Ty P t b n) (w : World) : (sizeOf t).run P w = .ok n w := by
 obtain ⟨_, hs⟩ := h
 obtain ⟨i, hi, hn⟩ := jQ.1 hs
 simp [sizeOf, typeInfo, hi, hn]
theorem qjj {t : TypeId} {n : Nat} {d : D} {p : Addr → Prop} {w : World} {u : Value} {b o : Nat} (ht : Ty P t d.isAgg n) (hn : sz d = n) (hu : Rep p w d u) (hc : ∀ j x, u.cells.toList[j]? = some x → w.cell? ⟨b, o + j, none⟩ = some x) : (loadVar t ⟨b, o, none⟩).run P w = .ok u w := by
 have hs := Rep.sz hu
 have hback := Rep.back hu
 unfold loadVar
 simp only [Sem.run_bind, qAB ht, Result.andThen_ok]
 have hc' : ∀ j v, u.cells.toList[j]? = some v → w.cell? ((⟨b, o, none⟩ : Addr).add j) = some v := fun j v hv => by rw [zbk]; exact hc j v hv
 cases hd : d.isAgg with
 | true =>
  have hl := run_loadCells_list (P := P) w ⟨b, o, none⟩ u.cells.toList hc'
  rw [jW, hs, hn] at hl
  simp only [if_true, Sem.run_bind, qxS ht, Result.andThen_ok, hl]
  rw [hback]
  cases d <;> simp [D.isAgg] at hd
  simp [yb, Value.cells]
 | false =>
  simp only [jS, if_false]
  have h1 : u.cells.toList[0]? = some u := by
   cases d <;> simp [D.isAgg] at hd <;> simp only [Rep] at hu
   case tup => obtain ⟨vs, rfl, _⟩ := hu; simp [Value.cells]
   case undef => subst hu; simp [Value.cells, Go.undef]
   case bool => subst hu; simp [Value.cells]
   case int => rw [hu.1]; simp [Value.cells]
   case str => rw [hu.1]; simp [Value.cells]
   case lst => obtain ⟨A, c, xs, rfl, _⟩ := hu; simp [Value.cells]
   case full => obtain ⟨A, xs, rfl, _⟩ := hu; simp [Value.cells]
   case own => obtain ⟨rfl, A, c, xs, rfl, _⟩ := hu; simp [Value.cells]
   case ptr => obtain ⟨b, o, u, rfl, _⟩ := hu; simp [Value.cells]
   case ref => subst hu; simp [Value.cells]
   case mref => subst hu; simp [Value.cells]
   case arr => obtain ⟨A, c, rfl, _⟩ := hu; simp [Value.cells]
   case vec => obtain ⟨rfl, A, c, rfl, _⟩ := hu; simp [Value.cells]
   case clo => obtain ⟨fs, cs, rfl, _⟩ := hu; simp [Value.cells]
   case nilf => subst hu; simp [Value.cells]
   case nilm => subst hu; simp [Value.cells]
   case nilp => subst hu; simp [Value.cells]
   case map => subst hu; simp [Value.cells]
   case ifc => obtain ⟨u, rfl, _⟩ := hu; simp [Value.cells]
   case nili => subst hu; simp [Value.cells]
  have h2 := hc 0 u h1
  simp only [j4] at h2
  simp [h2]
def ResD (P : Program) (env : Env) (σ : St) : ResultVar → D → Prop
 | .tmp t, d => ∃ e, lk env t = some e ∧ Wk e d
 | .cell t ty, d => ∃ e n, Wk e d ∧ Ty P ty e.isAgg n ∧ sz e = n ∧ (lk env t = some (.ptr e) ∨ ∃ b, lk env t = some (.ref b 0 []) ∧ .cell b e ∈ σ)
inductive zaA (P : Program) (env : Env) (σ : St) : List ResultVar → List D → Prop
 | nil : zaA P env σ [] []
 | cons {r : ResultVar} {d : D} {rs : List ResultVar} {ds : List D} (h : ResD P env σ r d) (k : zaA P env σ rs ds) : zaA P env σ (r :: rs) (d :: ds)
def yI : List D → D
 | [d] => d
 | ds => .tup ds
def zb8 (a : Act) : ResultVar → Sem Value
 | .tmp t => pure (a.tmps.getD t Go.undef)
 | .cell x t => do loadVar t (← asAddr (a.tmps.getD x Go.undef))
theorem qxO {p : Addr → Prop} {a : Act} {w : World} (hi : Inv K p σ w) (hr : zW p w env a) {r : ResultVar} {d : D} (h : ResD P env σ r d) :
 ∃ v, (zb8 a r).run P w = .ok v w ∧ Rep p w d v := by
 cases r with
 | tmp t =>
  obtain ⟨e, h1, h2⟩ := h
  exact ⟨_, by simp [zb8], h2 _ _ _ (hr t e h1)⟩
 | cell t ty =>
  obtain ⟨e, n, hw, ht, hn, h1 | ⟨b, h1, h2⟩⟩ := h
  have := hr t _ h1
  simp only [Rep] at this
  obtain ⟨b, o, u, h3, h4, h5, h6⟩ := this
  have hl := qjj (P := P) (b := b) (o := o) ht hn h5 (fun j x hx => by
   rcases h4 with h4 | ⟨b', o', h4, h7⟩
   rw [h4] at hx; simp at hx
   injection h4 with h4; injection h4 with h4 h8; subst h4 h8; exact (h7 j x hx).2)
  exact ⟨u, by simp only [zb8, h3, asAddr, Sem.run_bind, Sem.run_pure, Result.andThen_ok, hl], hw _ _ _ h5⟩
  have := hr t _ h1
  simp only [Rep] at this
  obtain ⟨u, ty', h3, h4, h5, h6⟩ := hi.ok _ h2
  have hl := qjj (P := P) (b := b) (o := 0) ht hn h3 (fun j x hx => by
   rw [cell_of_row _ _ _ _ _ _ h5]
   simpa using hx)
  exact ⟨u, by simp only [zb8, this, asAddr, Sem.run_bind, Sem.run_pure, Result.andThen_ok, hl], hw _ _ _ h3⟩
theorem qqY {p : Addr → Prop} {a : Act} {w : World} (hi : Inv K p σ w) (hr : zW p w env a) : ∀ {rs : List ResultVar} {ds : List D}, zaA P env σ rs ds →
 ∃ vs : List Value, (rs.mapM (zb8 a)).run P w = .ok vs w ∧ zH p w ds vs
 | _, _, .nil => ⟨[], by simp, zH.nil _ _⟩
 | _, _, .cons h k => by
  obtain ⟨v, h1, h2⟩ := qxO hi hr h
  obtain ⟨vs, h3, h4⟩ := qqY hi hr k
  exact ⟨v :: vs, by simp only [List.mapM_cons, Sem.run_bind, h1, Result.andThen_ok, h3, Sem.run_pure], zH.cons h2 h4⟩
theorem qvt {p : Addr → Prop} {a : Act} {w : World} (hi : Inv K p σ w) (hr : zW p w env a) {ds : List D} (h : zaA P env σ fn.results.toList ds) : ∃ v, (results fn a.tmps).run P w = .ok v w ∧ Rep p w (yI ds) v := by
 obtain ⟨vs, h1, h2⟩ := qqY hi hr h
 have e : results fn a.tmps = (do let vs ← fn.results.mapM (zb8 a); pure (if h : vs.size = 1 then vs[0] else .tuple vs)) := by
  unfold results
  congr 1
 rw [e]
 have e2 : (fn.results.mapM (zb8 a)).run P w = .ok vs.toArray w := by
  rw [Array.mapM_eq_mapM_toList]
  simp [h1]
 simp only [Sem.run_bind, e2, Result.andThen_ok, Sem.run_pure]
 refine ⟨_, rfl, ?_⟩
 match ds, vs, h2 with
 | [], vs, h2 =>
  simp only [zH] at h2
  subst h2
  simp only [yI, Rep, zH]
  exact ⟨[], rfl, rfl⟩
 | [d], vs, h2 =>
  simp only [zH] at h2
  obtain ⟨v, rest, rfl, h3, rfl⟩ := h2
  simpa [yI] using h3
 | d :: e :: ds, vs, h2 =>
  have h2' := h2
  simp only [zH] at h2
  obtain ⟨v, rest, rfl, h3, u, rest', rfl, h4, h5⟩ := h2
  simp only [yI, Rep]
  refine ⟨v :: u :: rest', by simp, h2'⟩
theorem qz8 {p : Addr → Prop} {a : Act} {w : World} {ds : List D} (hi : Inv K p σ w) (hr : zW p w env a) (hd : a.defers = []) (hf : P.funcs[f]? = some fn) (hds : zaA P env σ fn.results.toList ds) (hR : R (yI ds) σ) (b : Frame) {kd : CallKind} (hb : b.fn = f) (hk : b.kind = kd) (todo : List Item) :
 ∃ e, Left K R e w ∧ zag kd P ({ b.atR a todo with mode := .returning } : Frame) w e ∧ e ≠ .outgrown := by
 obtain ⟨v, h1, h2⟩ := qvt (fn := fn) hi hr hds
 exact ⟨.returned v, .inl ⟨v, _, σ, p, rfl, hR, h2, hi⟩, ⟨rfl, hd, hk, fn, by rw [← hb] at hf; exact hf, h1⟩, fun h => by cases h⟩
theorem qaw (_ : P.funcs[f]? = some fn) (ds : List D) (hds : zaA P env σ fn.results.toList ds) (hR : R (yI ds) σ) : Goes P f fn K R (.code .ret :: k) env σ := fun p a w hi hr hn hd b cs hb hk hro hf => by
 obtain ⟨e, h1, h2, h3⟩ := qz8 (R := R) hi hr hd hf hds hR b hb hk (.code .ret :: k)
 refine ⟨e, w, { b.atR a (.code .ret :: k) with mode := .returning }, h1, ?_, hb, h2⟩
 cases e with
 | returned v => exact Steps.one (stepR_ret hro)
 | panicked c => exact Steps.one (stepR_ret hro)
 | outgrown => exact absurd rfl h3
theorem qEZ (_ : P.funcs[f]? = some fn) (ds : List D) (hds : zaA P env σ fn.results.toList ds) (hR : R (yI ds) σ) : Goes P f fn K R [] env σ := fun p a w hi hr hn hd b cs hb hk hro hf => by
 obtain ⟨e, h1, h2, h3⟩ := qz8 (R := R) hi hr hd hf hds hR b hb hk []
 refine ⟨e, w, { b.atR a [] with mode := .returning }, h1, ?_, hb, h2⟩
 cases e with
 | returned v => exact Steps.one (stepR_end hro)
 | panicked c => exact Steps.one (stepR_end hro)
 | outgrown => exact absurd rfl h3
def zal : Nat → List D → Env
 | _, [] => []
 | i, d :: ds => (i, d) :: zal (i + 1) ds
theorem qqM : ∀ (ds : List D) (i t : Nat) (d : D), lk (zal i ds) t = some d → i ≤ t ∧ ds[t - i]? = some d
 | [], _, _, _, h => by cases h
 | e :: ds, i, t, d, h => by
  rw [zal, qiY] at h
  by_cases hi : i = t
  subst hi
  rw [if_pos rfl] at h
  exact ⟨jk _, by simpa using h⟩
  rw [if_neg hi] at h
  obtain ⟨h1, h2⟩ := qqM ds (i + 1) t d h
  refine ⟨by omega, ?_⟩
  have : t - i = (t - (i + 1)) + 1 := by omega
  rw [this]
  simpa using h2
theorem qDL {c : Code} {ds : List D} (hf : P.funcs[f]? = some fn) (hb : fn.body = some c) (h : ∀ K, (K.F0 = fun b => b ∈ yR σ) → Goes P f fn K R [.code c] (zal 0 ds) σ) : Spec P f ds σ R := by
 intro w p vs hi hv cs
 let b : Frame := { (default : Frame) with fn := f, kind := .normal, roundOf := none }
 have henter : Frame.enter P f vs.toArray .normal = b.atR { tmps := vs.toArray ++ Array.replicate (fn.ntmps - vs.toArray.size) undef, defers := [] } [.code c] := by
  simp [Frame.enter, Frame.atR, hf, hb, b]
 rw [henter]
 suffices hS : Fin none .normal P f (ctx w p σ) R (b.atR { tmps := vs.toArray ++ Array.replicate (fn.ntmps - vs.toArray.size) undef, defers := [] } [.code c]) cs w by
  obtain ⟨e, w', fr, h1, h2, h3, h4⟩ := hS
  exact ⟨e, w', fr, h1, h2, h3, h4.normal⟩
 refine h (ctx w p σ) rfl p _ w hi ?_ ?_ rfl b cs rfl rfl rfl hf
 intro t d ht
 obtain ⟨_, h2⟩ := qqM ds 0 t d ht
 obtain ⟨v, h3, h4⟩ := hv.at_ h2
 have : (vs.toArray ++ Array.replicate (fn.ntmps - vs.toArray.size) Go.undef).getD t Go.undef = v := by
  have hlt := (jt.1 h3).1
  have h5 : vs[t]? = some v := by simpa using h3
  rw [Array.getD_eq_getD_getElem?, Array.getElem?_append_left (by simpa using hlt)]
  simp [h5]
 rw [this]
 exact h4
 simp; omega
theorem qBK {c : Code} {ds : List D} (env : Env) (hf : P.funcs[f]? = some fn) (hb : fn.body = some c) (he : zal 0 ds = env) (h : ∀ K, (K.F0 = fun b => b ∈ yR σ) → Goes P f fn K R [.code c] env σ) : Spec P f ds σ R := qDL hf hb fun K hK => he ▸ h K hK
end
def yG (ops : Array Oper) (env : Env) (o : Oper) : Option Bool :=
 match o.guard with
 | none => some true
 | some (j, want) =>
  match (ops[j]?).bind (·.dst) with
  | none => none
  | some t =>
   match lk env t with
   | some (.bool b) => some (b == want)
   | some .undef => some false
   | _ => none
theorem qgh {p : Addr → Prop} {w : World} {ops : Array Oper} {env : Env} {a : Act} {o : Oper} {b : Bool} (hr : ∀ t ∈ o.looksAt ops, ∀ d, lk env t = some d → Rep p w d (a.tmps.getD t Go.undef)) (h : yG ops env o = some b) : Region.wanted o (yielded ops a.tmps) = b := by
 unfold yG at h
 unfold Region.wanted
 cases hg : o.guard with
 | none => simp only [hg] at h ⊢; injection h
 | some jw =>
  obtain ⟨j, want⟩ := jw
  simp only [hg] at h ⊢
  unfold yielded
  cases hd : (ops[j]?).bind (·.dst) with
  | none => simp [hd] at h
  | some t =>
   simp only [hd] at h ⊢
   have hm : t ∈ o.looksAt ops := by simp [Oper.looksAt, hg, hd]
   cases hl : lk env t with
   | none => simp [hl] at h
   | some d =>
    have hv := hr t hm d hl
    simp only [hl] at h
    cases d <;> simp only [Rep] at hv <;> simp at h
    rw [Array.getD_eq_getD_getElem?] at hv
    cases hq : a.tmps[t]? with
    | none => rw [hq] at hv; cases hv
    | some u =>
     rw [hq] at hv
     simp only [vV] at hv
     subst hv h
     rename_i bb
     simp only [ja, hq]
     cases want <;> cases bb <;> rfl
    rw [Array.getD_eq_getD_getElem?] at hv
    subst h
    cases hq : a.tmps[t]? with
    | none => simp [hq]
    | some u =>
     rw [hq] at hv
     simp only [vV] at hv
     subst hv
     simp [hq, Go.undef]
def zC (P : Program) (o : Oper) (ρ : Operand → Option D) (σ : St) (R : D → St → Prop) : Prop :=
 ∀ (K : Ctx) (p : Addr → Prop) (a : Act) (w : World), Inv K p σ w → (∀ x ∈ o.op.operands, ∀ d, ρ x = some d → Rep p w d (a.eval x)) →
  o.wp P a w (fun a' w' => ∃ v d σ' p', a' = a.put o.dst v ∧ R d σ' ∧ Rep p' w' d v ∧ Inv K p' σ' w' ∧ zT p w p' w') (fun _ _ _ => False)
def zD (P : Program) (o : Oper) (ρ : Operand → Option D) (d : D) : Prop := ∀ σ, zC P o ρ σ fun d' σ' => d' = d ∧ σ' = σ
def zbf (P : Program) (o : Oper) (ρ : Operand → Option D) (σ : St) (R : D → St → Prop) : Prop :=
 ∀ (rd : Option Nat) (K : Ctx) (p : Addr → Prop) (a : Act) (w : World), Inv K p σ w → (∀ x ∈ o.op.operands, ∀ d, ρ x = some d → Rep p w d (a.eval x)) →
  o.wpIn (fw rd) 0 P a w (fun a' w' => ∃ v d σ' p', a' = a.put o.dst v ∧ R d σ' ∧ Rep p' w' d v ∧ Inv K p' σ' w' ∧ zT p w p' w') (fun _ _ _ => False)
theorem qhw (a : Act) (dst : Option Tmp) (v : Value) : (a.put dst v).defers = a.defers := by cases dst <;> rfl
theorem qx3 {rd : Option Nat} {P : Program} {m m' : Machine} (h : Steps P m m') : StepsIn (Machine.fenced P (fw rd)) P m m' := by
 cases rd <;> exact stepsIn_wide.2 h
theorem qza {P : Program} {o : Oper} {a : Act} {rd : Option Nat} {N : Act → World → Prop} {Q : Exit → Act → World → Prop} {r : Result Next} (h : o.upon P a N Q r) : o.uponIn (fw rd) 0 P a N Q r := by
 have hd : (fw rd).depth.isSome = true → False := by cases rd <;> (intro h; cases h)
 unfold Oper.upon at h
 unfold Oper.uponIn
 split at h
 exact h
 exact h
 exact h
 exact ⟨fun h => (hd h).elim, qBA h⟩
 refine ⟨fun h => (hd h).elim, fun c cs _ => ?_⟩
 obtain ⟨v, w', h1, h2⟩ := h c cs
 exact ⟨v, w', h1, qx3 h2⟩
 exact h
 exact h.elim
theorem qqj {P : Program} {o : Oper} {a : Act} {w : World} {N : Act → World → Prop} {Q : Exit → Act → World → Prop} (h : o.wp P a w N Q) : o.wpIn (fw none) 0 P a w N Q :=
 ⟨fun f _ => quG none f, qza h⟩
theorem zC.y {P : Program} {o : Oper} {ρ : Operand → Option D} {σ : St} {R : D → St → Prop} (h : zC P o ρ σ R) : zbf P o ρ σ R := fun rd K p a w hi hv => by
 have h0 := h K p a w hi hv
 cases rd with
 | none => exact qqj h0
 | some l =>
  refine ⟨fun f _ => quG _ f, ?_⟩
  by_cases hd : ∃ c, o.op = .defer c
  obtain ⟨c, hc⟩ := hd
  exfalso
  unfold Oper.wp at h0
  simp only [execOp, hc, Sem.run_bind] at h0
  cases hr : (resolve a.eval c o.type).run P w with
  | ok d w' =>
   rw [hr] at h0
   obtain ⟨v, d', σ', p', e, _⟩ := h0
   have := congrArg Act.defers e
   rw [qhw, qhw] at this
   have := congrArg List.length this
   simp at this
  | halt x w' =>
   rw [hr] at h0
   cases x <;> exact h0
  rw [show (fw (some l)).round = some l from rfl, Oper.semAt_eq _ _ _ fun c hc => hd ⟨c, hc⟩]
  exact qza h0
def DieT (P : Program) (o : Oper) (ρ : Operand → Option D) (σ τ : St) (d : D) : Prop :=
 ∀ (K : Ctx) (p : Addr → Prop) (a : Act) (w : World), Inv K p σ w → (∀ x ∈ o.op.operands, ∀ d, ρ x = some d → Rep p w d (a.eval x)) →
  o.wp P a w (fun _ _ => False) (fun e a' w' => ∃ v p', e = .panic [{ v, recovered := false }] ∧ a' = a ∧ Rep p' w' d v ∧ Inv K p' τ w' ∧ zT p w p' w')
abbrev NX : Env → D → St → Prop := fun _ _ _ => False
inductive Cls where
 | d | r | w | x
 deriving DecidableEq
def Cls.isW : Cls → Bool
 | .w | .x => true
 | _ => false
section
variable {P : Program} {ops : Array Oper}
def Run (P : Program) (ops : Array Oper) (X : Env → D → St → Prop) (Q : Env → St → Prop) : List (Nat × Cls) → Env → St → Prop
 | [], env, σ => Q env σ
 | (i, c) :: l, env, σ => ∃ o, ops[i]? = some o ∧ ((yG ops env o = some false ∧ Run P ops X Q l (env.put o.dst .undef) σ) ∨ (yG ops env o = some true ∧ match c with
  | .d => ∃ d, zD P o (ev env) d ∧ Run P ops X Q l (env.put o.dst d) σ
  | .r => ∃ d, zC P o (ev env) σ (fun d' σ' => d' = d ∧ σ' = σ) ∧ Run P ops X Q l (env.put o.dst d) σ
  | .w => ∃ R, zbf P o (ev env) σ R ∧ ∀ d σ', R d σ' → Run P ops X Q l (env.put o.dst d) σ'
  | .x => ∃ R, zbf P o (ev env) σ R ∧ ∀ d σ', R d σ' → Run P ops X Q l (env.put o.dst d) σ') ∨ (yG ops env o = some true ∧ ∃ e d τ, (∀ t, lk e t = lk env t) ∧ X e d τ ∧ DieT P o (ev env) σ τ d ∧ c.isW = true))
theorem qkU {X : Env → D → St → Prop} {Q Q' : Env → St → Prop} (hq : ∀ e s, Q e s → Q' e s) : ∀ (l : List (Nat × Cls)) (env : Env) (σ : St), Run P ops X Q l env σ → Run P ops X Q' l env σ
 | [], _, _, h => hq _ _ h
 | (i, c) :: l, env, σ, h => by
  obtain ⟨o, ho, h⟩ := h
  refine ⟨o, ho, ?_⟩
  rcases h with ⟨hw, h⟩ | ⟨hw, h⟩ | h
  exact .inl ⟨hw, qkU hq l _ _ h⟩
  rotate_left
  exact .inr (.inr h)
  refine .inr (.inl ⟨hw, ?_⟩)
  cases c with
  | d => obtain ⟨d, h1, h2⟩ := h; exact ⟨d, h1, qkU hq l _ _ h2⟩
  | r => obtain ⟨d, h1, h2⟩ := h; exact ⟨d, h1, qkU hq l _ _ h2⟩
  | w => obtain ⟨R, h1, h2⟩ := h; exact ⟨R, h1, fun d σ' hR => qkU hq l _ _ (h2 d σ' hR)⟩
  | x => obtain ⟨R, h1, h2⟩ := h; exact ⟨R, h1, fun d σ' hR => qkU hq l _ _ (h2 d σ' hR)⟩
def yx (ops : Array Oper) (n : Nat) : Bool := ops.toList.all fun o => (match o.dst with | some t => decide (t < n) | none => true) && o.op.operands.toList.all zaJ
theorem qlN {n i : Nat} {o : Oper} (h : yx ops n = true) (ho : ops[i]? = some o) (t : Nat) (ht : o.dst = some t) : t < n := by
 have hm : o ∈ ops.toList := List.mem_of_getElem? (by simpa using ho)
 have := jv.1 h o hm
 simp only [jj, ht, decide_eq_true_eq] at this
 exact this.1
theorem qxI {n i : Nat} {o : Oper} (h : yx ops n = true) (ho : ops[i]? = some o) (x : Operand) (hx : x ∈ o.op.operands) : zaJ x = true := by
 have hm : o ∈ ops.toList := List.mem_of_getElem? (by simpa using ho)
 have := jv.1 h o hm
 simp only [jj] at this
 exact jv.1 this.2 x (by simpa using hx)
theorem qnS {p : Addr → Prop} {w : World} {env : Env} {a : Act} {o : Oper} {n i : Nat} (h : yx ops n = true) (ho : ops[i]? = some o) (hr : ∀ t ∈ o.looksAt ops, ∀ d, lk env t = some d → Rep p w d (a.tmps.getD t Go.undef)) : ∀ x ∈ o.op.operands, ∀ d, ev env x = some d → Rep p w d (a.eval x) := fun x hx d hd => by
 have hok := qxI h ho x hx
 cases x with
 | tmp t =>
  refine hr t ?_ d hd
  exact jr _ (List.mem_filterMap.2 ⟨.tmp t, by simpa using hx, rfl⟩)
 | const v => exact qsP hd hok
 | func f =>
  injection hd with hd
  subst hd
  simp only [Rep]
  exact ⟨[], [], rfl, zH.nil _ _, zH.nil _ _⟩
 | global g => cases hd
def Good (K : Ctx) (n : Nat) (m : Md) (env : Env) (σ : St) (a : Act) (w : World) : Prop := ∃ p, Inv K p σ w ∧ zW p w env a ∧ n ≤ a.tmps.size ∧ a.defers = m.marks
theorem qns (a : Act) (dst : Option Tmp) (v : Value) : (a.put dst v).tmps.size = a.tmps.size := by cases dst <;> simp [Act.put]
theorem qxR {F : Fence} {n : Nat} {P : Program} {o : Oper} {a : Act} {r : Result Next} {N N' : Act → World → Prop} {Q Q' : Exit → Act → World → Prop} (hn : ∀ a' w', N a' w' → N' a' w') (hq : ∀ e a' w', Q e a' w' → Q' e a' w') (h : o.uponIn F n P a N Q r) : o.uponIn F n P a N' Q' r := by
 unfold Oper.uponIn at h ⊢
 split at h
 exact hn _ _ h
 exact hn _ _ h
 exact hn _ _ h
 refine ⟨h.1, CallsIn.mono h.2 fun e w' hh => ?_⟩
 cases e with
 | returned v => exact hn _ _ hh
 | panicked c => exact hq _ _ _ hh
 | outgrown => obtain ⟨a₀, w₀, hh⟩ := hh; exact ⟨a₀, w₀, hq _ _ _ hh⟩
 exact ⟨h.1, RowsIn.mono h.2 fun v w' hh => hn _ _ hh⟩
 refine ⟨h.1, RoundIn.mono h.2 fun e w' hh => ?_⟩
 cases e with
 | returned v => exact hn _ _ hh
 | panicked c => exact hq _ _ _ hh
 | outgrown => obtain ⟨a₀, w₀, hh⟩ := hh; exact ⟨a₀, w₀, hq _ _ _ hh⟩
 exact hq _ _ _ h
 exact h.elim
theorem ql3 {F : Fence} {n : Nat} {P : Program} {o : Oper} {a : Act} {w : World} {N N' : Act → World → Prop} {Q Q' : Exit → Act → World → Prop} (hn : ∀ a' w', N a' w' → N' a' w') (hq : ∀ e a' w', Q e a' w' → Q' e a' w') (h : o.wpIn F n P a w N Q) : o.wpIn F n P a w N' Q' :=
 ⟨h.1, qxR hn hq h.2⟩
theorem qvs {n : Nat} {K : Ctx} {m : Md} {X : Env → D → St → Prop} {Q : Env → St → Prop} (hX : ∀ e d τ, X e d τ → m.rd = none) (hok : yx ops n = true) : ∀ (l : List (Nat × Cls)) (env : Env) (σ : St) (a : Act) (w : World), Run P ops X Q l env σ → Good K n m env σ a w →
 wpOpsIn (fw m.rd) 0 P ops (zbi P K n m X Q) (l.map (·.1)) a w
 | [], env, σ, a, w, h, ⟨p, h1, h2, h3, h4⟩ => .inl ⟨rfl, env, σ, p, h, h1, h2, h3, h4⟩
 | (i, c) :: l, env, σ, a, w, h, ⟨p, h1, h2, h3, h4⟩ => by
  obtain ⟨o, ho, h⟩ := h
  simp only [jm, wpOpsIn, ho]
  rcases h with ⟨hw, h⟩ | ⟨hw, h⟩ | ⟨hw, e₀, d, τ, he₀, hx, h, _⟩
  rotate_right
  have := qgh (a := a) (p := p) (w := w) (fun t _ d ht => h2 t d ht) hw
  rw [this]
  simp only [if_true]
  have hst := h K p a w h1 (qnS hok ho fun t _ d ht => h2 t d ht)
  rw [hX e₀ d τ hx]
  exact ql3 (fun a' w' hh => hh.elim) (fun e a' w' hh => by
   obtain ⟨v, p', rfl, rfl, hv, hi, hg⟩ := hh
   exact .inr ⟨v, d, τ, p', e₀, rfl, hx, hv, hi, fun t d' ht => (h2.grow hg) t d' (by rw [← he₀ t]; exact ht), h4⟩) (qqj hst)
  have := qgh (a := a) (p := p) (w := w) (fun t _ d ht => h2 t d ht) hw
  rw [this]
  simp only [jS, if_false]
  exact ⟨fun f _ => quG _ f, qvs hX hok l _ σ _ w h ⟨p, h1, h2.put (by simp only [Rep]) fun t ht => vi (qlN hok ho t ht) h3, by rw [qns]; exact h3, by rw [qhw]; exact h4⟩⟩
  have := qgh (a := a) (p := p) (w := w) (fun t _ d ht => h2 t d ht) hw
  rw [this]
  simp only [if_true]
  have key : ∃ R, zbf P o (ev env) σ R ∧ ∀ d σ', R d σ' → Run P ops X Q l (env.put o.dst d) σ' := by
   cases c with
   | d => obtain ⟨d, hs, hk⟩ := h; exact ⟨_, (hs σ).y, fun d' σ' ⟨e1, e2⟩ => e1 ▸ e2 ▸ hk⟩
   | r => obtain ⟨d, hs, hk⟩ := h; exact ⟨_, hs.y, fun d' σ' ⟨e1, e2⟩ => e1 ▸ e2 ▸ hk⟩
   | w => exact h
   | x => exact h
  obtain ⟨R, hs, hk⟩ := key
  have hst := hs m.rd K p a w h1 (qnS hok ho fun t _ d ht => h2 t d ht)
  refine ql3 (fun a' w' hh => ?_) (fun _ _ _ hh => hh.elim) hst
  obtain ⟨v, d, σ', p', rfl, hR, hv, hi, hg⟩ := hh
  exact qvs hX hok l _ σ' _ w' (hk d σ' hR) ⟨p', hi, (h2.grow hg).put hv fun t ht => vi (qlN hok ho t ht) h3, by rw [qns]; exact h3, by rw [qhw]; exact h4⟩
theorem qBU {f : FuncId} {fn : Func} {K : Ctx} {R : D → St → Prop} {k : List Item} {env : Env} {σ : St} {id : Nat} {l : List Oper} (hok : yx l.toArray fn.ntmps = true) (ord : List (Nat × Cls)) (ho : ord.map (·.1) = List.range l.length)
 (h : Run P l.toArray (fun _ => K.X) (Goes P f fn K R k) ord env σ) : Goes P f fn K R (.code (.region id l.toArray false) :: k) env σ :=
 qpJ (Q := Goes P f fn K R k) (X := fun _ => K.X) (fun p a w hi hr hn hd => by
  refine wpIn_region ?_
  have := qvs (K := K) (m := Md.top) (fun _ _ _ _ => rfl) hok ord env σ a w h ⟨p, hi, hr, hn, hd⟩
  rw [ho] at this
  simpa using this) (fun _ _ _ h => ⟨h, rfl⟩) (fun _ _ h => h)
def ix : Nat → List Cls → List (Nat × Cls)
 | _, [] => []
 | n, c :: cs => (n, c) :: ix (n + 1) cs
theorem gr {f : FuncId} {fn : Func} {K : Ctx} {R : D → St → Prop} {k : List Item} {env : Env} {σ : St} {id : Nat} {l : List Oper} (cs : List Cls) (h : Run P l.toArray (fun _ => K.X) (Goes P f fn K R k) (ix 0 cs) env σ) (hok : yx l.toArray fn.ntmps = true := by kernel_rfl) (ho : (ix 0 cs).map (·.1) = List.range l.length := by rfl) : Goes P f fn K R (.code (.region id l.toArray false) :: k) env σ := qBU hok (ix 0 cs) ho h
end
structure PE where
 i : Nat
 c : Cls
 o : Oper
 E : Env
 V : D
def zI (T : Nat → Bool) (env : Env) (l : List PE) : Env := l.foldl (fun E e => if T e.i then E.put e.o.dst e.V else E) env
abbrev yf (env : Env) (l : List PE) : Env := zI (fun _ => true) env l
theorem qhH (env : Env) (dst : Option Tmp) (d : D) (s : Nat) : lk (env.put dst d) s = if dst = some s then some d else lk env s := by
 cases dst with
 | none => simp [Env.put]
 | some t => simp only [Env.put, qiY, Option.some.injEq]
theorem qkP (T : Nat → Bool) (env : Env) (l m : List PE) : zI T env (l ++ m) = zI T (zI T env l) m := by simp [zI]
theorem qj8 {T : Nat → Bool} {t : Nat} : ∀ {l : List PE} {E : Env}, (∀ e ∈ l, T e.i = true → e.o.dst ≠ some t) → lk (zI T E l) t = lk E t
 | [], _, _ => rfl
 | e :: l, E, h => by
  have h1 := qj8 (T := T) (t := t) (l := l) (E := if T e.i then E.put e.o.dst e.V else E) fun e' he' => h e' (jf _ he')
  simp only [zI, vj] at h1 ⊢
  rw [h1]
  split
  rename_i hT
  rw [qhH, if_neg (h e (jd ..) hT)]
  rfl
theorem qoy {T : Nat → Bool} {t : Nat} : ∀ {l : List PE} {E E' : Env}, (∀ e ∈ l, e.o.dst = some t → T e.i = true) → lk E t = lk E' t → lk (zI T E l) t = lk (yf E' l) t
 | [], _, _, _, h0 => h0
 | e :: l, E, E', h, h0 => by
  simp only [zI, vj]
  refine qoy (l := l) (fun e' he' => h e' (jf _ he')) ?_
  simp only [if_true]
  by_cases hd : e.o.dst = some t
  rw [h e (jd ..) hd]
  simp [qhH, hd]
  rw [qhH, if_neg hd]
  split
  rw [qhH, if_neg hd]; exact h0
  exact h0
theorem qhE {T T' : Nat → Bool} : ∀ {l : List PE} {E : Env}, (∀ e ∈ l, T e.i = T' e.i) → zI T E l = zI T' E l
 | [], _, _ => rfl
 | e :: l, E, h => by
  simp only [zI, vj]
  rw [h e (jd ..)]
  exact qhE (l := l) fun e' he' => h e' (jf _ he')
/-! ### what is checked by looking -/
section
variable {P : Program} {ops : Array Oper}
def za2 (ops : Array Oper) (r M : Array Nat) : Bool := (List.range ops.size).all fun k => (List.range ops.size).all fun j => !(M.getD k 0).testBit j || (match ops[k]? with
 | some o => o.after.any fun e => Region.binds .any e && decide (r.getD e.on 0 < r.getD k 0 ∧ e.on < ops.size) && (e.on == j || (M.getD e.on 0).testBit j)
 | none => false)
def zb2 (ops : Array Oper) (r : Array Nat) : Bool := (List.range ops.size).all fun k => match ops[k]? with
 | some o => o.after.all fun e => !Region.binds .any e || decide (r.getD e.on 0 < r.getD k 0 ∧ e.on < ops.size)
 | none => true
def ranks (n : Nat) (ord : List Nat) : Array Nat := (ord.foldl (fun (x : Array Nat × Nat) i => (x.1.setIfInBounds i x.2, x.2 + 1)) (Array.replicate n 0, 0)).1
def yv (ops : Array Oper) (ord : List Nat) : Array Nat := ord.foldl (fun M i => match ops[i]? with
 | some o => M.setIfInBounds i (o.after.foldl (fun m e => if Region.binds .any e then m ||| (1 <<< e.on) ||| M.getD e.on 0 else m) 0)
 | none => M) (Array.replicate ops.size 0)
def yl (ops : Array Oper) (j k : Nat) : Bool := match ops[j]?, ops[k]? with
 | some x, some y => x.apart ops y
 | _, _ => false
def z6 (ops : Array Oper) (M : Array Nat) (x y : Nat × Cls) : Bool := (M.getD y.1 0).testBit x.1 || (!x.2.isW && !(x.2 == .r && y.2.isW) && yl ops x.1 y.1)
def yp : List (Nat × Cls) → Option Nat
 | [] => none
 | y :: l => if y.2.isW then some y.1 else yp l
theorem qsJ : ∀ {l : List (Nat × Cls)} {j : Nat}, yp l = some j → ∃ c, (j, c) ∈ l
 | [], _, h => by cases h
 | y :: l, j, h => by
  unfold yp at h
  split at h
  injection h with h
  exact ⟨y.2, by rw [← h]; exact jd ..⟩
  obtain ⟨c, hc⟩ := qsJ h
  exact ⟨c, jf _ hc⟩
def zbR (M : Array Nat) (l : List (Nat × Cls)) : List (Nat × Cls) := match yp l with
 | some j => l.filter fun y => !(y.1 == j || (M.getD y.1 0).testBit j)
 | none => l
def ya (ops : Array Oper) (M : Array Nat) : List (Nat × Cls) → Bool
 | [] => true
 | x :: l => (match x.2 with | .x => zbR M l | _ => l).all (fun y => z6 ops M x y) && ya ops M l
def zak (n : Nat) (ord : List (Nat × Cls)) : Bool := (List.range n).all (fun i => ord.any fun x => x.1 == i) && ord.all (fun x => decide (x.1 < n)) && decide (ord.map (·.1)).Nodup
def yS (ops : Array Oper) (ord : List (Nat × Cls)) : Bool := za2 ops (ranks ops.size (ord.map (·.1))) (yv ops (ord.map (·.1))) && zb2 ops (ranks ops.size (ord.map (·.1))) && ya ops (yv ops (ord.map (·.1))) ord && zak ops.size ord
def Tof (listed : Array Bool) (i : Nat) : Bool := listed.getD i false
def Down (ops : Array Oper) (listed : Array Bool) : Prop := ∀ k o, ops[k]? = some o → Tof listed k = true → ∀ e ∈ o.after, Region.binds .any e = true → Tof listed e.on = true
theorem qqF {r M : Array Nat} {listed : Array Bool} (hM : za2 ops r M = true) (hd : Down ops listed) : ∀ (n : Nat) (k : Nat) (o : Oper), r.getD k 0 = n → ops[k]? = some o → (∀ e ∈ o.after, Region.binds .any e = true → Tof listed e.on = true) → ∀ j, j < ops.size → (M.getD k 0).testBit j = true → Tof listed j = true := by
 intro n
 induction n using Nat.strongRecOn with
 | _ n ih =>
  intro k o hn ho hall j hj hb
  have hk : k < ops.size := (jE.1 ho).1
  have h1 := jv.1 (jv.1 hM k (by simpa using hk)) j (by simpa using hj)
  rw [hb] at h1
  simp only [jL, vu, ho] at h1
  obtain ⟨e, he, h2⟩ := Array.any_eq_true'.1 h1
  simp only [jj, decide_eq_true_eq, Bool.or_eq_true, beq_iff_eq] at h2
  obtain ⟨⟨h3, h4, h4'⟩, h5⟩ := h2
  have hl := hall e he h3
  rcases h5 with rfl | h5
  exact hl
  obtain ⟨o', ho'⟩ : ∃ o', ops[e.on]? = some o' := ⟨ops[e.on]'h4', vf h4'⟩
  exact ih (r.getD e.on 0) oa e.on o' rfl ho' (hd e.on o' ho' hl) j hj h5
theorem qhJ {M : Array Nat} : ∀ {l m : List (Nat × Cls)} {x y : Nat × Cls}, ya ops M (l ++ x :: m) = true → x.2 ≠ .x → y ∈ m → z6 ops M x y = true
 | [], m, x, y, h, hx, hy => by
  simp only [jo, ya, jj] at h
  obtain ⟨i, c⟩ := x
  cases c with
  | x => exact absurd rfl hx
  | d => exact jv.1 h.1 y hy
  | r => exact jv.1 h.1 y hy
  | w => exact jv.1 h.1 y hy
 | z :: l, m, x, y, h, hx, hy => by
  simp only [jB, ya, jj] at h
  exact qhJ h.2 hx hy
theorem qq7 {M : Array Nat} : ∀ {l m : List (Nat × Cls)} {i : Nat} {y : Nat × Cls}, ya ops M (l ++ (i, .x) :: m) = true → y ∈ m → (∀ j, yp m = some j → y.1 ≠ j ∧ (M.getD y.1 0).testBit j = false) → z6 ops M (i, .x) y = true
 | [], m, i, y, h, hy, hj => by
  simp only [jo, ya, jj] at h
  refine jv.1 h.1 y ?_
  unfold zbR
  split
  rename_i j hf
  obtain ⟨h1, h2⟩ := hj j hf
  exact vl.2 ⟨hy, by rw [h2]; simpa using h1⟩
  exact hy
 | z' :: l, m, i, y, h, hy, hj => by
  simp only [jB, ya, jj] at h
  exact qq7 h.2 hy hj
end
def zaC (P : Program) (ops : Array Oper) (σ : St) (e : PE) : Prop :=
 (yG ops e.E e.o = some false ∧ e.V = .undef) ∨ (yG ops e.E e.o = some true ∧ ((e.c = .d ∧ zD P e.o (ev e.E) e.V) ∨ (e.c = .r ∧ zC P e.o (ev e.E) σ fun d' σ' => d' = e.V ∧ σ' = σ)))
section
variable {P : Program} {ops : Array Oper} {Q : Env → St → Prop}
theorem za3 {X : Env → D → St → Prop} (env0 : Env) (σ : St) : ∀ (l : List (Nat × Cls)) (E : Env), Run P ops X Q l E σ → ∃ (new : List PE) (l' : List (Nat × Cls)), l = new.map (fun e => (e.i, e.c)) ++ l' ∧ Run P ops X Q l' (yf E new) σ ∧
 (∀ d1 e d2, new = d1 ++ e :: d2 → e.E = yf E d1 ∧ ops[e.i]? = some e.o ∧ zaC P ops σ e ∧ e.c.isW = false) ∧ (l' = [] ∨ ∃ i c l'', l' = (i, c) :: l'' ∧ c.isW = true)
 | [], E, h => ⟨[], [], rfl, h, fun d1 e d2 hh => by simp at hh, .inl rfl⟩
 | (i, c) :: l, E, h => by
  have h0 := h
  obtain ⟨o, ho, h⟩ := h
  cases hc : c.isW with
  | true => exact ⟨[], (i, c) :: l, rfl, h0, fun d1 e d2 hh => by simp at hh, .inr ⟨i, c, l, rfl, hc⟩⟩
  | false =>
   have key : ∃ V, zaC P ops σ ⟨i, c, o, E, V⟩ ∧ Run P ops X Q l (E.put o.dst V) σ := by
    rcases h with ⟨hw, h⟩ | ⟨hw, h⟩ | ⟨_, _, _, _, _, _, _, hq⟩
    exact ⟨.undef, .inl ⟨hw, rfl⟩, h⟩
    rotate_left
    rw [hc] at hq
    cases hq
    cases c with
    | d => obtain ⟨d, hs, hk⟩ := h; exact ⟨d, .inr ⟨hw, .inl ⟨rfl, hs⟩⟩, hk⟩
    | r => obtain ⟨d, hs, hk⟩ := h; exact ⟨d, .inr ⟨hw, .inr ⟨rfl, hs⟩⟩, hk⟩
    | w => cases hc
    | x => cases hc
   obtain ⟨V, hp, hk⟩ := key
   obtain ⟨new, l', h1, h2, h3, h4⟩ := za3 env0 σ l _ hk
   refine ⟨⟨i, c, o, E, V⟩ :: new, l', by simp [h1], by simpa [zI] using h2, fun d1 e d2 hh => ?_, h4⟩
   cases d1 with
   | nil =>
    simp only [jo, List.cons.injEq] at hh
    obtain ⟨rfl, _⟩ := hh
    exact ⟨rfl, ho, hp, hc⟩
   | cons x d1 =>
    simp only [jB, List.cons.injEq] at hh
    obtain ⟨rfl, hh⟩ := hh
    obtain ⟨h5, h6⟩ := h3 d1 e d2 hh
    exact ⟨by rw [h5]; simp [zI], h6⟩
end
section
variable {P : Program} {ops : Array Oper} {Q : Env → St → Prop}
theorem qlU {M : Array Nat} {x y : Nat × Cls} (h : z6 ops M x y = true) (hb : (M.getD y.1 0).testBit x.1 = false) : x.2.isW = false ∧ ¬(x.2 = .r ∧ y.2.isW = true) ∧ yl ops x.1 y.1 = true := by
 unfold z6 at h
 rw [hb] at h
 simp only [vu, jj, vW, Bool.and_eq_false_imp, beq_iff_eq] at h
 refine ⟨h.1.1, fun hh => ?_, h.2⟩
 have := h.1.2 hh.1
 rw [hh.2] at this
 cases this
theorem qeH {listed : Array Bool} {i : Nat} (hi : i < listed.size) (j : Nat) : Tof (listed.setIfInBounds i true) j = if j = i then true else Tof listed j := by
 unfold Tof
 by_cases h : j = i
 subst h; simp [hi]
 rw [if_neg h, Array.getD_eq_getD_getElem?, Array.getD_eq_getD_getElem?, Array.getElem?_setIfInBounds_ne (Ne.symm h)]
structure Mid (P : Program) (ops : Array Oper) (X : Env → D → St → Prop) (Q : Env → St → Prop) (K : Ctx) (n : Nat) (m : Md) (T : List (List (Nat × Cls))) (env0 : Env) (done : List PE) (l : List (Nat × Cls)) (listed : Array Bool) (σ : St) (a : Act) (w : World) : Prop where
 ok : ∀ t ∈ T, yS ops (done.map (fun e => (e.i, e.c)) ++ (l ++ t)) = true
 nonem : ∃ t, t ∈ T
 chain : ∀ d1 e d2, done = d1 ++ e :: d2 → e.E = yf env0 d1 ∧ ops[e.i]? = some e.o ∧ (Tof listed e.i = false → zaC P ops σ e ∧ e.c.isW = false)
 rest : Run P ops X (fun e s => ∀ t ∈ T, Run P ops X Q t e s) l (yf env0 done) σ
 head : l = [] ∨ ∃ i c l', l = (i, c) :: l' ∧ c.isW = true
 thead : ∀ t ∈ T, t = [] ∨ ∃ i c t', t = (i, c) :: t' ∧ c.isW = true
 tpair : ∀ t ∈ T, ∀ i t' j, t = (i, .x) :: t' → yp t' = some j → ∃ t2 ∈ T, ∃ t2', t2 = (j, .x) :: t2'
 lx : ∀ x ∈ l, x.2 ≠ .x
 tx : ∀ t ∈ T, ∀ x ∈ t.tail, x.2 ≠ .x
 new : ∀ x ∈ l, Tof listed x.1 = false
 tnew : ∀ t ∈ T, ∀ x ∈ t, Tof listed x.1 = false
 down : Down ops listed
 size : listed.size = ops.size
 good : Good K n m (zI (Tof listed) env0 done) σ a w
def left (ord : List (Nat × Cls)) (listed : Array Bool) : Nat := (ord.filter fun x => !Tof listed x.1).length
theorem qwI {ord : List (Nat × Cls)} {listed : Array Bool} {i : Nat} {c : Cls} (hn : (ord.map (·.1)).Nodup) (hm : (i, c) ∈ ord) (hi : i < listed.size) (hf : Tof listed i = false) : left ord (listed.setIfInBounds i true) + 1 = left ord listed := by
 unfold left
 induction ord with
 | nil => cases hm
 | cons x ord ih =>
  simp only [jm, jP] at hn
  by_cases hx : x.1 = i
  have hno : ∀ y ∈ ord, y.1 ≠ i := fun y hy e => hn.1 (by rw [hx, ← e]; exact jF hy)
  have e1 : ord.filter (fun x => !Tof (listed.setIfInBounds i true) x.1) = ord.filter (fun x => !Tof listed x.1) := List.filter_congr fun y hy => by rw [qeH hi, if_neg (hno y hy)]
  rw [vv, vv, hx, qeH hi, if_pos rfl, hf, e1]
  simp
  have hm' : (i, c) ∈ ord := by
   rcases jh.1 hm with h | h
   exact absurd (by rw [← h]) hx
   exact h
  have := ih hn.2 hm'
  rw [vv, vv, qeH hi, if_neg hx]
  split
  simp only [jg]; omega
  exact this
def yz (n : Nat) (listed : Array Bool) : Nat := left ((List.range n).map fun i => (i, Cls.d)) listed
theorem qC0 {X : Env → D → St → Prop} {n : Nat} {md : Md} (hX : ∀ e d τ, X e d τ → X [] d τ ∧ md.rd = none) {K : Ctx} {env0 : Env} (hok : yx ops n = true) :
 ∀ (fuel : Nat) (T : List (List (Nat × Cls))) (done : List PE) (l : List (Nat × Cls)) (listed : Array Bool) (σ : St) (a : Act) (w : World), Mid P ops X Q K n md T env0 done l listed σ a w → yz ops.size listed = fuel →
  wpAnyIn (fw md.rd) 0 P .any ops (zbi P K n md X Q) fuel listed a w := by
 intro fuel
 induction fuel with
 | zero =>
  intro T done l listed σ a w m h0
  obtain ⟨t0, ht0⟩ := m.nonem
  have hA := m.ok t0 ht0
  obtain ⟨ord, hord⟩ : ∃ ord, ord = done.map (fun e => (e.i, e.c)) ++ (l ++ t0) := ⟨_, rfl⟩
  rw [← hord] at hA
  have hall0 : done.map (fun e => (e.i, e.c)) ++ (l ++ t0) = ord := hord.symm
  simp only [yS, jj] at hA
  obtain ⟨⟨⟨hM, hL⟩, hP⟩, hI⟩ := hA
  simp only [zak, jj, decide_eq_true_eq] at hI
  obtain ⟨⟨hI1, hI2⟩, hnd⟩ := hI
  have hin : ∀ i, i < ops.size → ∃ c, (i, c) ∈ ord := fun i hi => by
   obtain ⟨x, hx, he⟩ := vg.1 (jv.1 hI1 i (by simpa using hi))
   exact ⟨x.2, by rw [← (beq_iff_eq.1 he)]; exact hx⟩
  have hlt : ∀ x ∈ ord, x.1 < ops.size := fun x hx => by simpa using jv.1 hI2 x hx
  have hall : ∀ x ∈ ord, Tof listed x.1 = true := fun x hx => by
   cases hT : Tof listed x.1 with
   | true => rfl
   | false =>
    have : (x.1, Cls.d) ∈ ((List.range ops.size).map fun i => (i, Cls.d)).filter fun x => !Tof listed x.1 := vl.2 ⟨jx.2 ⟨x.1, by simpa using hlt x hx, rfl⟩, by simp [hT]⟩
    have := vX this
    unfold yz left at h0
    omega
  refine ⟨?_, .inl ⟨rfl, ?_⟩⟩
  refine Ji.2 fun i hi => ?_
  obtain ⟨hun, o, ho, _⟩ := mem_ready.1 hi
  have hi' := (jE.1 ho).1
  obtain ⟨c, hc⟩ := hin i hi'
  have := hall _ hc
  unfold Tof at this
  have hs : i < listed.size := by rw [m.size]; exact hi'
  simp [hs] at this hun
  rw [this] at hun
  cases hun
  have hl : l = [] := by
   rcases m.head with h | ⟨i, c, l', h, _⟩
   exact h
   have hm : (i, c) ∈ l := by rw [h]; simp
   have h1 := m.new _ hm
   rw [hall _ (by rw [← hall0]; exact jz _ (jr _ hm))] at h1
   cases h1
  have ht : t0 = [] := by
   rcases m.thead t0 ht0 with h | ⟨i, c, l', h, _⟩
   exact h
   have hm : (i, c) ∈ t0 := by rw [h]; simp
   have h1 := m.tnew t0 ht0 _ hm
   rw [hall _ (by rw [← hall0]; exact jz _ (jz _ hm))] at h1
   cases h1
  obtain ⟨p, g1, g2, g3, g4⟩ := m.good
  have hr := m.rest
  rw [hl] at hr
  have hr := hr t0 ht0
  rw [ht] at hr
  have he : zI (Tof listed) env0 done = yf env0 done := qhE fun e he => hall (e.i, e.c) (by rw [← hall0]; exact jr _ (jF he))
  exact ⟨_, σ, p, hr, g1, he ▸ g2, g3, g4⟩
 | succ fuel ih =>
  intro T done l listed σ a w m h0
  obtain ⟨t0, ht0⟩ := m.nonem
  have hA := m.ok t0 ht0
  obtain ⟨ord, hord⟩ : ∃ ord, ord = done.map (fun e => (e.i, e.c)) ++ (l ++ t0) := ⟨_, rfl⟩
  rw [← hord] at hA
  have hall0 : done.map (fun e => (e.i, e.c)) ++ (l ++ t0) = ord := hord.symm
  simp only [yS, jj] at hA
  obtain ⟨⟨⟨hM, hL⟩, hP⟩, hI⟩ := hA
  simp only [zak, jj, decide_eq_true_eq] at hI
  obtain ⟨⟨hI1, hI2⟩, hnd⟩ := hI
  have hin : ∀ i, i < ops.size → ∃ c, (i, c) ∈ ord := fun i hi => by
   obtain ⟨x, hx, he⟩ := vg.1 (jv.1 hI1 i (by simpa using hi))
   exact ⟨x.2, by rw [← (beq_iff_eq.1 he)]; exact hx⟩
  have hlt : ∀ x ∈ ord, x.1 < ops.size := fun x hx => by simpa using jv.1 hI2 x hx
  obtain ⟨p, g1, g2, g3, g4⟩ := m.good
  have hmask := fun k o ho hall j hj => qqF (ops := ops) hM m.down _ k o rfl ho hall j hj
  refine ⟨fun hnone => ?_, fun i hi => ?_⟩
  exfalso
  -- one that has not come up, the first of them
  have hex : ∃ i, i < ops.size ∧ Tof listed i = false := by
   have : 0 < yz ops.size listed := by omega
   unfold yz left at this
   obtain ⟨x, hx⟩ := List.exists_mem_of_length_pos this
   obtain ⟨hx1, hx2⟩ := vl.1 hx
   obtain ⟨y, hy, rfl⟩ := jx.1 hx1
   exact ⟨y, by simpa using hy, by simpa using hx2⟩
  obtain ⟨i, hi1, hi2⟩ := hex
  have : ∀ n k, (ranks ops.size (ord.map (·.1))).getD k 0 = n → k < ops.size → Tof listed k = false → False := by
   intro n
   induction n using Nat.strongRecOn with
   | _ n ihk =>
    intro k hkn hk1 hk2
    have hr : k ∈ Region.ready .any ops listed := by
     refine mem_ready.2 ⟨?_, ops[k], vf hk1, fun e he hb => ?_⟩
     have hs : k < listed.size := by rw [m.size]; exact hk1
     unfold Tof at hk2
     simp [hs] at hk2 ⊢
     exact hk2
     cases hT : Tof listed e.on with
     | true => exact hT
     | false =>
      have hl := jv.1 hL k (by simpa using hk1)
      simp only [vf hk1] at hl
      have := (Array.all_eq_true_iff_forall_mem.1 hl) e he
      simp only [hb, jL, vu, decide_eq_true_eq] at this
      exact (ihk _ (by rw [← hkn]; exact this.1) e.on rfl this.2 hT).elim
    rw [hnone] at hr
    cases hr
  exact this _ i rfl hi1 hi2
  · obtain ⟨hun, o, ho, hdeps⟩ := mem_ready.1 hi
    have hi' := (jE.1 ho).1
    have hs : i < listed.size := by rw [m.size]; exact hi'
    have hT : Tof listed i = false := by
     unfold Tof
     simp [hs] at hun ⊢
     exact hun
    obtain ⟨c, hc⟩ := hin i hi'
    have hdown : Down ops (listed.setIfInBounds i true) := fun k o' ho' hk e he hb => by
     rw [qeH hs] at hk ⊢
     split
     · rfl
     · by_cases hki : k = i
       · subst hki
         rw [ho] at ho'
         injection ho' with ho'
         subst ho'
         exact hdeps e he hb
       · rw [if_neg hki] at hk
         exact m.down k o' ho' hk e he hb
    have hleft := qwI (ord := (List.range ops.size).map fun i => (i, Cls.d)) (c := Cls.d) (by rw [jI]; have : (vm ∘ fun i : Nat => (i, Cls.d)) = id := rfl; rw [this, List.map_id]; exact List.nodup_range) (jx.2 ⟨i, by simpa using hi', rfl⟩) hs hT
    -- who must have come up, who cannot have
    have before : ∀ x y : Nat × Cls, x.1 < ops.size → z6 ops (yv ops (ord.map (·.1))) x y = true → y.1 = i → Tof listed x.1 = false → x.2.isW = false ∧ ¬(x.2 = .r ∧ y.2.isW = true) ∧ yl ops x.1 y.1 = true := fun x y hx hp hy hf => qlU hp (by
     cases hb : ((yv ops (ord.map (·.1))).getD y.1 0).testBit x.1 with
     | false => rfl
     | true =>
      rw [hy] at hb
      rw [hmask i o ho hdeps x.1 hx hb] at hf
      cases hf)
    have behind : ∀ x y : Nat × Cls, y.1 < ops.size → z6 ops (yv ops (ord.map (·.1))) x y = true → x.1 = i → Tof listed y.1 = true → x.2.isW = false ∧ ¬(x.2 = .r ∧ y.2.isW = true) ∧ yl ops x.1 y.1 = true := fun x y hy hp hx ht => qlU hp (by
     cases hb : ((yv ops (ord.map (·.1))).getD y.1 0).testBit x.1 with
     | false => rfl
     | true =>
      have h1 := hmask y.1 _ (vf hy) (m.down y.1 _ (vf hy) ht) x.1 (by rw [hx]; exact hi') hb
      rw [hx, hT] at h1
      cases h1)
    have apartL : ∀ {j k : Nat} {x y : Oper}, yl ops j k = true → ops[j]? = some x → ops[k]? = some y → x.apart ops y = true := fun {j k x y} h hx hy => by
     unfold yl at h
     rw [hx, hy] at h
     exact h
    rw [← hall0] at hc
    rcases jl.1 hc with hc' | hc'
    · -- it is pending
      obtain ⟨e, he, hec⟩ := jx.1 hc'
      obtain ⟨d1, d2, hsplit⟩ := jR he
      obtain rfl : e.i = i := congrArg vm hec
      obtain ⟨hE, heo, hpend⟩ := m.chain d1 e d2 hsplit
      obtain ⟨hp, hcw⟩ := hpend hT
      have heq : e.o = o := by rw [heo] at ho; injection ho
      have hunl : ∀ x ∈ done, Tof listed x.i = false → x.c ≠ .x := fun x hx hf e => by
       obtain ⟨u1, u2, hu⟩ := jR hx
       have := ((m.chain u1 x u2 hu).2.2 hf).2
       rw [e] at this
       cases this
      have hpair1 : ∀ x ∈ d1, Tof listed x.i = false → z6 ops (yv ops (ord.map (·.1))) (x.i, x.c) (e.i, e.c) = true := fun x hx hf => by
       obtain ⟨u1, u2, hu⟩ := jR hx
       have : ya ops (yv ops (ord.map (·.1))) ((u1.map fun e => (e.i, e.c)) ++ (x.i, x.c) :: ((u2.map fun e => (e.i, e.c)) ++ (e.i, e.c) :: ((d2.map fun e => (e.i, e.c)) ++ (l ++ t0)))) = true := by
        rw [← hP, ← hall0, hsplit, hu]; simp
       exact qhJ this (hunl x (by rw [hsplit]; exact jr _ hx) hf) og
      have hpair2 : ∀ x ∈ d2, z6 ops (yv ops (ord.map (·.1))) (e.i, e.c) (x.i, x.c) = true := fun x hx => by
       have : ya ops (yv ops (ord.map (·.1))) ((d1.map fun e => (e.i, e.c)) ++ (e.i, e.c) :: ((d2.map fun e => (e.i, e.c)) ++ (l ++ t0))) = true := by
        rw [← hP, ← hall0, hsplit]; simp
       exact qhJ this (fun h => by have := hcw; simp only at h; rw [h] at this; cases this) (jr _ (jF hx))
      have hmemlt : ∀ x ∈ done, x.i < ops.size ∧ ops[x.i]? = some x.o := fun x hx => by
       obtain ⟨u1, u2, hu⟩ := jR hx
       have := (m.chain u1 x u2 hu).2.1
       exact ⟨(jE.1 this).1, this⟩
      have hin1 : ∀ x ∈ d1, x ∈ done := fun x hx => by rw [hsplit]; exact jr _ hx
      have hin2 : ∀ x ∈ d2, x ∈ done := fun x hx => by rw [hsplit]; exact jz _ (jf _ hx)
      have hlook : ∀ t ∈ o.looksAt ops, lk (zI (Tof listed) env0 done) t = lk e.E t := fun t ht => by
       rw [hsplit, qkP]
       have hcons : zI (Tof listed) (zI (Tof listed) env0 d1) (e :: d2) = zI (Tof listed) (zI (Tof listed) env0 d1) d2 := by simp [zI, hT]
       rw [hcons, qj8, hE]
       · refine qoy (fun x hx hd => ?_) rfl
         cases hf : Tof listed x.i with
         | true => rfl
         | false =>
          have := (before (x.i, x.c) (e.i, e.c) (hmemlt x (hin1 x hx)).1 (hpair1 x hx hf) rfl hf).2.2
          have h5 := apartL this (hmemlt x (hin1 x hx)).2 ho
          exact absurd ht ((Oper.apart_spec h5).1 t hd)
       · intro x hx hf hd
         have := (behind (e.i, e.c) (x.i, x.c) (hmemlt x (hin2 x hx)).1 (hpair2 x hx) rfl hf).2.2
         have h5 := apartL this ho (hmemlt x (hin2 x hx)).2
         exact (Oper.apart_spec h5).2.2 t hd ht
      have hrep : ∀ t ∈ o.looksAt ops, ∀ d, lk e.E t = some d → Rep p w d (a.tmps.getD t Go.undef) := fun t ht d hd => g2 t d (by rw [hlook t ht]; exact hd)
      have hput : ∀ t, lk (zI (Tof (listed.setIfInBounds e.i true)) env0 done) t = lk ((zI (Tof listed) env0 done).put o.dst e.V) t := fun t => by
       have hne1 : ∀ x ∈ d1, x.i ≠ e.i := fun x hx hxe => by
        rw [← hall0, hsplit] at hnd
        simp only [jK, jm, jI] at hnd
        have := jH.1 (jH.1 hnd).1
        exact this.2.2 _ (jF hx) _ (jd ..) hxe
       have hne2 : ∀ x ∈ d2, x.i ≠ e.i := fun x hx hxe => by
        rw [← hall0, hsplit] at hnd
        simp only [jK, jm, jI] at hnd
        have := (jH.1 (jH.1 hnd).1).2.1
        simp only [jP] at this
        exact this.1 (jx.2 ⟨x, hx, hxe⟩)
       have e1 : zI (Tof (listed.setIfInBounds e.i true)) env0 done = zI (Tof listed) ((zI (Tof listed) env0 d1).put o.dst e.V) d2 := by
        rw [hsplit, qkP, qhE (T := Tof (listed.setIfInBounds e.i true)) (T' := Tof listed) (l := d1) fun x hx => by rw [qeH hs, if_neg (hne1 x hx)]]
        have : zI (Tof (listed.setIfInBounds e.i true)) (zI (Tof listed) env0 d1) (e :: d2) = zI (Tof (listed.setIfInBounds e.i true)) ((zI (Tof listed) env0 d1).put o.dst e.V) d2 := by
         simp [zI, qeH hs, heq]
        rw [this]
        exact qhE fun x hx => by rw [qeH hs, if_neg (hne2 x hx)]
       have e2 : zI (Tof listed) env0 done = zI (Tof listed) (zI (Tof listed) env0 d1) d2 := by
        rw [hsplit, qkP]; simp [zI, hT]
       rw [e1, e2, qhH]
       by_cases hd : o.dst = some t
       · rw [if_pos hd, qj8, qhH, if_pos hd]
         intro x hx hf hxd
         have := (behind (e.i, e.c) (x.i, x.c) (hmemlt x (hin2 x hx)).1 (hpair2 x hx) rfl hf).2.2
         have h5 := apartL this ho (hmemlt x (hin2 x hx)).2
         exact (Oper.apart_spec h5).2.1 t hd hxd
       · rw [if_neg hd]
         have gen : ∀ (m : List PE) (A B : Env), lk A t = lk B t → lk (zI (Tof listed) A m) t = lk (zI (Tof listed) B m) t := by
          intro m
          induction m with
          | nil => exact fun A B h => h
          | cons x m ihm =>
           intro A B h
           simp only [zI, vj]
           refine ihm _ _ ?_
           split
           · simp only [qhH]; split <;> simp [h]
           · exact h
         exact gen d2 _ _ (by rw [qhH, if_neg hd])
      have next : ∀ (a' : Act) (w' : World) (p' : Addr → Prop) (v : Value), a' = a.put o.dst v → Rep p' w' e.V v → Inv K p' σ w' → zT p w p' w' → Mid P ops X Q K n md T env0 done l (listed.setIfInBounds e.i true) σ a' w' := fun a' w' p' v ha' hv hi2 hg => by
       have hnin : ∀ t ∈ T, ∀ x ∈ l ++ t, x.1 ≠ e.i := fun t ht x hx hxe => by
        have hk := m.ok t ht
        simp only [yS, jj, zak, decide_eq_true_eq] at hk
        have hnd := hk.2.2
        rw [jK, jI] at hnd
        exact (jH.1 hnd).2.2 _ (jF he) _ (jF hx) hxe.symm
       refine ⟨m.ok, m.nonem, fun u1 x u2 hu => ?_, m.rest, m.head, m.thead, m.tpair, m.lx, m.tx, fun x hx => ?_, fun t ht x hx => ?_, hdown, by simpa using m.size, ⟨p', hi2, fun t d ht => ?_, ?_, ?_⟩⟩
       · obtain ⟨q1, q2, q3⟩ := m.chain u1 x u2 hu
         refine ⟨q1, q2, fun hf => q3 ?_⟩
         rw [qeH hs] at hf
         split at hf
         · cases hf
         · exact hf
       · rw [qeH hs, if_neg (hnin t0 ht0 x (jr _ hx)), m.new x hx]
       · rw [qeH hs, if_neg (hnin t ht x (jz _ hx)), m.tnew t ht x hx]
       · rw [hput t] at ht
         have hr' := (g2.grow hg).put (dst := o.dst) hv fun t ht => vi (qlN hok ho t ht) g3
         rw [ha']
         exact hr' t d ht
       · rw [ha', qns]; exact g3
       · rw [ha', qhw]; exact g4
      unfold wpOpIn
      simp only [ho]
      have hlf : yz ops.size (listed.setIfInBounds e.i true) = fuel := by unfold yz at h0 ⊢; omega
      rcases hp with ⟨hw, hV⟩ | ⟨hw, hp⟩
      · rw [heq] at hw
        rw [qgh hrep hw]
        simp only [jS, if_false]
        exact ⟨fun f _ => quG _ f, ih _ _ _ _ _ _ _ (next _ w p Go.undef rfl (by rw [hV]; simp only [Rep]) g1 (zT.refl p w)) hlf⟩
      · rw [heq] at hw
        rw [qgh hrep hw]
        simp only [if_true]
        have hst : zC P o (ev e.E) σ fun d' σ' => d' = e.V ∧ σ' = σ := by
         rw [← heq]
         rcases hp with ⟨_, hp⟩ | ⟨_, hp⟩
         · exact hp σ
         · exact hp
        refine ql3 (fun a' w' hh => ?_) (fun _ _ _ hh => hh.elim) (hst.y md.rd K p a w g1 (qnS hok ho hrep))
        obtain ⟨v, d, σ', p', ha', ⟨rfl, rfl⟩, hv, hi2, hg⟩ := hh
        exact ih _ _ _ _ _ _ _ (next a' w' p' v ha' hv hi2 hg) hlf
    · -- it is the next one of our order
      obtain ⟨T', ci, lrest, hW, hT'ok, hT'some, hT'run, hT'head, hT'pair, hT'lx, hT'tx, hT'new, hT'tnew⟩ : ∃ (T' : List (List (Nat × Cls))) (ci : Cls) (lrest : List (Nat × Cls)), ci.isW = true ∧ (∀ t ∈ T', yS ops (done.map (fun e => (e.i, e.c)) ++ ((i, ci) :: lrest ++ t)) = true) ∧ (∃ t, t ∈ T') ∧ Run P ops X (fun e s => ∀ t ∈ T', Run P ops X Q t e s) ((i, ci) :: lrest) (yf env0 done) σ ∧ (∀ t ∈ T', t = [] ∨ ∃ i c t', t = (i, c) :: t' ∧ c.isW = true) ∧ (∀ t ∈ T', ∀ i t' j, t = (i, .x) :: t' → yp t' = some j → ∃ t2 ∈ T', ∃ t2', t2 = (j, .x) :: t2') ∧ (∀ x ∈ lrest, x.2 ≠ .x) ∧ (∀ t ∈ T', ∀ x ∈ t.tail, x.2 ≠ .x) ∧ (∀ x ∈ lrest, Tof listed x.1 = false) ∧ (∀ t ∈ T', ∀ x ∈ t, Tof listed x.1 = false) := by
       rcases m.head with hl | ⟨i0, c0, l', hl, hc0⟩
       · -- one of the ends
         subst hl
         have hend : ∀ t ∈ T, ∀ ci t', t = (i, ci) :: t' → ci.isW = true → ∃ (T' : List (List (Nat × Cls))) (ci : Cls) (lrest : List (Nat × Cls)), ci.isW = true ∧ (∀ t ∈ T', yS ops (done.map (fun e => (e.i, e.c)) ++ ((i, ci) :: lrest ++ t)) = true) ∧ (∃ t, t ∈ T') ∧ Run P ops X (fun e s => ∀ t ∈ T', Run P ops X Q t e s) ((i, ci) :: lrest) (yf env0 done) σ ∧ (∀ t ∈ T', t = [] ∨ ∃ i c t', t = (i, c) :: t' ∧ c.isW = true) ∧ (∀ t ∈ T', ∀ i t' j, t = (i, .x) :: t' → yp t' = some j → ∃ t2 ∈ T', ∃ t2', t2 = (j, .x) :: t2') ∧ (∀ x ∈ lrest, x.2 ≠ .x) ∧ (∀ t ∈ T', ∀ x ∈ t.tail, x.2 ≠ .x) ∧ (∀ x ∈ lrest, Tof listed x.1 = false) ∧ (∀ t ∈ T', ∀ x ∈ t, Tof listed x.1 = false) := fun t ht ci t' he hW => by
          subst he
          refine ⟨[[]], ci, t', hW, fun u hu => ?_, ⟨[], jn.2 rfl⟩, qkU (fun e s h u hu => by rw [jn.1 hu]; exact h) _ _ _ (m.rest _ ht), fun u hu => .inl (jn.1 hu), fun u hu i t'' j h _ => (by rw [jn.1 hu] at h; cases h), m.tx _ ht, fun u hu x hx => (by rw [jn.1 hu] at hx; cases hx), fun x hx => m.tnew _ ht x (jf _ hx), fun u hu x hx => (by rw [jn.1 hu] at hx; cases hx)⟩
          rw [jn.1 hu, js]
          exact m.ok _ ht
         rcases m.thead t0 ht0 with ht | ⟨i0, c0, t0', ht, hc0⟩
         · rw [ht] at hc'; cases hc'
         · by_cases hii : i = i0
           · subst hii
             exact hend t0 ht0 c0 t0' ht hc0
           · rw [jo, ht] at hc'
             rcases jh.1 hc' with h | h
             · exact absurd (congrArg vm h) hii
             · have hx0 : i0 < ops.size := hlt (i0, c0) (by rw [← hall0, ht]; simp)
               have hf0 : Tof listed i0 = false := m.tnew t0 ht0 (i0, c0) (by rw [ht]; simp)
               have hP' : ya ops (yv ops (ord.map (·.1))) ((done.map fun e => (e.i, e.c)) ++ (i0, c0) :: t0') = true := by
                rw [← hP, ← hall0, ht]; simp
               have habs : z6 ops (yv ops (ord.map (·.1))) (i0, c0) (i, c) = true → False := fun hp => by
                have := (before (i0, c0) (i, c) hx0 hp rfl hf0).1
                simp only at this
                rw [hc0] at this
                cases this
               by_cases hcx : c0 = .x
               · subst hcx
                 cases hfw : yp t0' with
                 | none => exact (habs (qq7 hP' h fun j hj => by rw [hfw] at hj; cases hj)).elim
                 | some j =>
                  by_cases hij : i = j
                  · subst hij
                    obtain ⟨t2, ht2, t2', h2⟩ := m.tpair t0 ht0 i0 t0' i ht hfw
                    exact hend t2 ht2 .x t2' h2 rfl
                  · obtain ⟨cj, hcj⟩ := qsJ hfw
                    have hjm : (j, cj) ∈ t0 := by rw [ht]; exact jf _ hcj
                    have hjf : Tof listed j = false := m.tnew t0 ht0 (j, cj) hjm
                    have hjlt : j < ops.size := hlt (j, cj) (by rw [← hall0]; exact jz _ (jz _ hjm))
                    cases hb : ((yv ops (ord.map (·.1))).getD i 0).testBit j with
                    | true =>
                     rw [hmask i o ho hdeps j hjlt hb] at hjf
                     cases hjf
                    | false => exact (habs (qq7 hP' h fun j' hj' => by
                     rw [hfw] at hj'
                     injection hj' with hj'
                     subst hj'
                     exact ⟨hij, hb⟩)).elim
               · exact (habs (qhJ hP' hcx h)).elim
       · subst hl
         have hii : i = i0 := by
          rcases jh.1 (by simpa using hc' : (i, c) ∈ (i0, c0) :: (l' ++ t0)) with h | h
          · exact congrArg vm h
          · exfalso
            have hx0 : i0 < ops.size := hlt (i0, c0) (by rw [← hall0]; simp)
            have hP' : ya ops (yv ops (ord.map (·.1))) ((done.map fun e => (e.i, e.c)) ++ (i0, c0) :: (l' ++ t0)) = true := by
             rw [← hP, ← hall0]; simp
            have hp := qhJ hP' (m.lx (i0, c0) (jd ..)) h
            have := (before (i0, c0) (i, c) hx0 hp rfl (m.new (i0, c0) (jd ..))).1
            simp only at this
            rw [hc0] at this
            cases this
         subst hii
         exact ⟨T, c0, l', hc0, m.ok, m.nonem, m.rest, m.thead, m.tpair, fun x hx => m.lx x (jf _ hx), m.tx, fun x hx => m.new x (jf _ hx), m.tnew⟩
      clear hc hc'
      obtain ⟨t1, ht1⟩ := hT'some
      have hA1 := hT'ok t1 ht1
      obtain ⟨ord, hord⟩ : ∃ ord, ord = done.map (fun e => (e.i, e.c)) ++ ((i, ci) :: lrest ++ t1) := ⟨_, rfl⟩
      rw [← hord] at hA1
      have hall0 : done.map (fun e => (e.i, e.c)) ++ ((i, ci) :: lrest ++ t1) = ord := hord.symm
      simp only [yS, jj] at hA1
      obtain ⟨⟨⟨hM, hL⟩, hP⟩, hI⟩ := hA1
      simp only [zak, jj, decide_eq_true_eq] at hI
      obtain ⟨⟨hI1, hI2⟩, hnd⟩ := hI
      have hin : ∀ i, i < ops.size → ∃ c, (i, c) ∈ ord := fun i hi => by
       obtain ⟨x, hx, he⟩ := vg.1 (jv.1 hI1 i (by simpa using hi))
       exact ⟨x.2, by rw [← (beq_iff_eq.1 he)]; exact hx⟩
      have hlt : ∀ x ∈ ord, x.1 < ops.size := fun x hx => by simpa using jv.1 hI2 x hx
      have hmask := fun k o ho hall j hj => qqF (ops := ops) hM m.down _ k o rfl ho hall j hj
      have before : ∀ x y : Nat × Cls, x.1 < ops.size → z6 ops (yv ops (ord.map (·.1))) x y = true → y.1 = i → Tof listed x.1 = false → x.2.isW = false ∧ ¬(x.2 = .r ∧ y.2.isW = true) ∧ yl ops x.1 y.1 = true := fun x y hx hp hy hf => qlU hp (by
       cases hb : ((yv ops (ord.map (·.1))).getD y.1 0).testBit x.1 with
       | false => rfl
       | true =>
        rw [hy] at hb
        rw [hmask i o ho hdeps x.1 hx hb] at hf
        cases hf)
      have hunl : ∀ x ∈ done, Tof listed x.i = false → x.c ≠ .x := fun x hx hf e => by
       obtain ⟨u1, u2, hu⟩ := jR hx
       have := ((m.chain u1 x u2 hu).2.2 hf).2
       rw [e] at this
       cases this
      have hpair : ∀ x ∈ done, Tof listed x.i = false → z6 ops (yv ops (ord.map (·.1))) (x.i, x.c) (i, ci) = true := fun x hx hf => by
       obtain ⟨u1, u2, hu⟩ := jR hx
       have : ya ops (yv ops (ord.map (·.1))) ((u1.map fun e => (e.i, e.c)) ++ (x.i, x.c) :: ((u2.map fun e => (e.i, e.c)) ++ (i, ci) :: (lrest ++ t1))) = true := by
        rw [← hP, ← hall0, hu]; simp
       exact qhJ this (hunl x hx hf) og
      have hmemlt : ∀ x ∈ done, x.i < ops.size ∧ ops[x.i]? = some x.o := fun x hx => by
       obtain ⟨u1, u2, hu⟩ := jR hx
       have := (m.chain u1 x u2 hu).2.1
       exact ⟨(jE.1 this).1, this⟩
      have hne : ∀ x ∈ done, x.i ≠ i := fun x hx hxe => by
       rw [← hall0] at hnd
       simp only [jK, jI, jm, jB] at hnd
       exact (jH.1 hnd).2.2 _ (jF hx) _ (jd ..) hxe
      have hlook : ∀ t ∈ o.looksAt ops, lk (zI (Tof listed) env0 done) t = lk (yf env0 done) t := fun t ht =>
       qoy (fun x hx hd => by
        cases hf : Tof listed x.i with
        | true => rfl
        | false =>
         have := (before (x.i, x.c) (i, ci) (hmemlt x hx).1 (hpair x hx hf) rfl hf).2.2
         have h5 := apartL this (hmemlt x hx).2 ho
         exact absurd ht ((Oper.apart_spec h5).1 t hd)) rfl
      have hrep : ∀ t ∈ o.looksAt ops, ∀ d, lk (yf env0 done) t = some d → Rep p w d (a.tmps.getD t Go.undef) := fun t ht d hd => g2 t d (by rw [hlook t ht]; exact hd)
      have next : ∀ (a' : Act) (w' : World) (p' : Addr → Prop) (v : Value) (V : D) (σ' : St), a' = a.put o.dst v → Rep p' w' V v → Inv K p' σ' w' → zT p w p' w' → Run P ops X (fun e s => ∀ t ∈ T', Run P ops X Q t e s) lrest ((yf env0 done).put o.dst V) σ' →
       ∃ done' l'', Mid P ops X Q K n md T' env0 done' l'' (listed.setIfInBounds i true) σ' a' w' := fun a' w' p' v V σ' ha' hv hi2 hg hrun => by
       obtain ⟨new, l'', h1, h2, h3, h4⟩ := za3 env0 σ' lrest _ hrun
       have heA : yf env0 (done ++ [⟨i, ci, o, yf env0 done, V⟩]) = (yf env0 done).put o.dst V := by simp [zI]
       have hndT : ∀ t ∈ T', (done.map (fun e => e.i) ++ i :: (new.map (fun e => e.i) ++ (l''.map (·.1) ++ t.map (·.1)))).Nodup := fun t ht => by
        have hk := hT'ok t ht
        simp only [yS, jj, zak, decide_eq_true_eq] at hk
        have := hk.2.2
        rw [h1] at this
        simpa [jI, Function.comp_def] using this
       have hnd' := hndT t1 ht1
       have hnd2 := jH.1 hnd'
       have hnd3 := jP.1 hnd2.2.1
       refine ⟨done ++ ⟨i, ci, o, yf env0 done, V⟩ :: new, l'', ⟨fun t ht => by have := hT'ok t ht; rw [h1] at this; simpa using this, ⟨t1, ht1⟩, fun u1 x u2 hu => ?_, ?_, h4, hT'head, hT'pair, fun x hx => hT'lx x (by rw [h1]; exact jz _ hx), hT'tx, fun x hx => ?_, fun t ht x hx => ?_, hdown, by simpa using m.size, ⟨p', hi2, fun t d ht => ?_, ?_, ?_⟩⟩⟩
       · -- the chain
         rcases List.append_eq_append_iff.1 hu with ⟨v1, hv1, hv2⟩ | ⟨v1, hv1, hv2⟩
         · cases v1 with
           | nil =>
            simp only [jo, List.cons.injEq] at hv2
            obtain ⟨rfl, rfl⟩ := hv2
            simp only [js] at hv1
            subst hv1
            exact ⟨rfl, ho, fun hf => by rw [qeH hs, if_pos rfl] at hf; cases hf⟩
           | cons y v1 =>
            simp only [jB, List.cons.injEq] at hv2
            obtain ⟨rfl, hv2⟩ := hv2
            obtain ⟨q1, q2, q3, q4⟩ := h3 v1 x u2 hv2
            refine ⟨?_, q2, fun _ => ⟨q3, q4⟩⟩
            rw [q1, hv1]
            simp [zI]
         · cases v1 with
           | nil =>
            simp only [jo, List.cons.injEq] at hv2
            obtain ⟨rfl, rfl⟩ := hv2
            simp only [js] at hv1
            subst hv1
            exact ⟨rfl, ho, fun hf => by rw [qeH hs, if_pos rfl] at hf; cases hf⟩
           | cons y v1 =>
            simp only [jB, List.cons.injEq] at hv2
            obtain ⟨rfl, hv2⟩ := hv2
            have hxin : x ∈ done := by rw [hv1]; simp
            obtain ⟨q1, q2, q3⟩ := m.chain u1 x v1 hv1
            refine ⟨q1, q2, fun hf => ?_⟩
            rw [qeH hs, if_neg (hne x hxin)] at hf
            obtain ⟨q4, q5⟩ := q3 hf
            refine ⟨?_, q5⟩
            have hnr := (before (x.i, x.c) (i, ci) (hmemlt x hxin).1 (hpair x hxin hf) rfl hf).2.1
            rcases q4 with q4 | ⟨q4, q6⟩
            · exact .inl q4
            · refine .inr ⟨q4, ?_⟩
              rcases q6 with q6 | ⟨q6, _⟩
              · exact .inl q6
              · exact absurd ⟨q6, hW⟩ hnr
       · have hee : yf env0 (done ++ (⟨i, ci, o, yf env0 done, V⟩ : PE) :: new) = yf ((yf env0 done).put o.dst V) new := by
          rw [← heA]
          simp [zI]
         rw [hee]
         exact h2
       · have hxi : x.1 ≠ i := fun e => hnd3.1 (by rw [← e]; exact jz _ (jr _ (jF hx)))
         rw [qeH hs, if_neg hxi]
         exact hT'new x (by rw [h1]; exact jz _ hx)
       · have hxi : x.1 ≠ i := fun e => (jP.1 (jH.1 (hndT t ht)).2.1).1 (by rw [← e]; exact jz _ (jz _ (jF hx)))
         rw [qeH hs, if_neg hxi]
         exact hT'tnew t ht x hx
       · have hT' : ∀ x ∈ done, Tof (listed.setIfInBounds i true) x.i = Tof listed x.i := fun x hx => by rw [qeH hs, if_neg (hne x hx)]
         have hnewf : ∀ x ∈ new, Tof (listed.setIfInBounds i true) x.i = false := fun x hx => by
          have hxi : x.i ≠ i := fun e => hnd3.1 (by rw [← e]; exact jr _ (jF hx))
          rw [qeH hs, if_neg hxi]
          exact hT'new (x.i, x.c) (by rw [h1]; exact jr _ (jF hx))
         rw [qkP, qhE hT'] at ht
         have hcons : zI (Tof (listed.setIfInBounds i true)) (zI (Tof listed) env0 done) (⟨i, ci, o, yf env0 done, V⟩ :: new) = zI (Tof (listed.setIfInBounds i true)) ((zI (Tof listed) env0 done).put o.dst V) new := by simp [zI, qeH hs]
         rw [hcons, qj8 (fun x hx hf => by rw [hnewf x hx] at hf; cases hf)] at ht
         have hr' := (g2.grow hg).put (dst := o.dst) hv fun t ht => vi (qlN hok ho t ht) g3
         rw [ha']
         exact hr' t d ht
       · rw [ha', qns]; exact g3
       · rw [ha', qhw]; exact g4
      have hlf : yz ops.size (listed.setIfInBounds i true) = fuel := by unfold yz at h0 ⊢; omega
      unfold wpOpIn
      simp only [ho]
      obtain ⟨o', ho', hrun⟩ := hT'run
      obtain rfl : o' = o := by rw [ho] at ho'; injection ho' with h; exact h.symm
      have hrun : (yG ops (yf env0 done) o' = some false ∧ Run P ops X (fun e s => ∀ t ∈ T', Run P ops X Q t e s) lrest ((yf env0 done).put o'.dst .undef) σ) ∨ (yG ops (yf env0 done) o' = some true ∧ ∃ R, zbf P o' (ev (yf env0 done)) σ R ∧ ∀ d σ', R d σ' → Run P ops X (fun e s => ∀ t ∈ T', Run P ops X Q t e s) lrest ((yf env0 done).put o'.dst d) σ') ∨ (yG ops (yf env0 done) o' = some true ∧ ∃ e d τ, X e d τ ∧ DieT P o' (ev (yf env0 done)) σ τ d) := by
       rcases hrun with hrun | hrun | ⟨hw, e, d, τ, _, hx, hdie, _⟩
       · exact .inl hrun
       rotate_left
       · exact .inr (.inr ⟨hw, e, d, τ, hx, hdie⟩)
       refine .inr (.inl ?_)
       cases ci with
       | w => exact hrun
       | x => exact hrun
       | d => cases hW
       | r => cases hW
      rcases hrun with ⟨hw, hk⟩ | ⟨hw, R, hst, hk⟩ | ⟨hw, e₀, d, τ, hx, hdie⟩
      rotate_right
      · rw [qgh hrep hw]
        simp only [if_true]
        obtain ⟨hx', hrd⟩ := hX e₀ d τ hx
        rw [hrd]
        refine ql3 (fun a' w' hh => hh.elim) (fun e a' w' hh => ?_) (qqj (hdie K p a w g1 (qnS hok ho hrep)))
        obtain ⟨v, p', rfl, rfl, hv, hi2, hg⟩ := hh
        exact .inr ⟨v, d, τ, p', [], rfl, hx', hv, hi2, fun t d' ht => (by cases ht), g4⟩
      · rw [qgh hrep hw]
        simp only [jS, if_false]
        obtain ⟨done', l'', hm⟩ := next _ w p Go.undef .undef σ rfl (by simp only [Rep]) g1 (zT.refl p w) hk
        exact ⟨fun f _ => quG _ f, ih _ _ _ _ _ _ _ hm hlf⟩
      · rw [qgh hrep hw]
        simp only [if_true]
        refine ql3 (fun a' w' hh => ?_) (fun _ _ _ hh => hh.elim) (hst md.rd K p a w g1 (qnS hok ho hrep))
        obtain ⟨v, d, σ', p', ha', hR, hv, hi2, hg⟩ := hh
        obtain ⟨done', l'', hm⟩ := next a' w' p' v d σ' ha' hv hi2 hg (hk d σ' hR)
        exact ih _ _ _ _ _ _ _ hm hlf
theorem qCs {X : Env → D → St → Prop} {n : Nat} {md : Md} (hX : ∀ e d τ, X e d τ → X [] d τ ∧ md.rd = none) {K : Ctx} {env : Env} {σ : St} (hok : yx ops n = true) (T : List (List (Nat × Cls))) (ord : List (Nat × Cls)) (hA : ∀ t ∈ T, yS ops (ord ++ t) = true) (hT : ∃ t, t ∈ T) (hh : ∀ t ∈ T, t = [] ∨ ∃ i c t', t = (i, c) :: t' ∧ c.isW = true)
 (hp : ∀ t ∈ T, ∀ i t' j, t = (i, .x) :: t' → yp t' = some j → ∃ t2 ∈ T, ∃ t2', t2 = (j, .x) :: t2') (hx : ∀ x ∈ ord, x.2 ≠ .x) (htx : ∀ t ∈ T, ∀ x ∈ t.tail, x.2 ≠ .x) (h : Run P ops X (fun e s => ∀ t ∈ T, Run P ops X Q t e s) ord env σ)
 {p : Addr → Prop} {a : Act} {w : World} (hi : Inv K p σ w) (hr : zW p w env a) (hn : n ≤ a.tmps.size) (hd : a.defers = md.marks) :
 wpAnyIn (fw md.rd) 0 P .any ops (zbi P K n md X Q) ops.size (Array.replicate ops.size false) a w := by
 obtain ⟨new, l', h1, h2, h3, h4⟩ := za3 (P := P) (Q := fun e s => ∀ t ∈ T, Run P ops X Q t e s) env σ ord env h
 have h0 : ∀ i, Tof (Array.replicate ops.size false) i = false := fun i => by
  unfold Tof
  rw [Array.getD_eq_getD_getElem?, Array.getElem?_replicate]
  split <;> rfl
 have hfuel : yz ops.size (Array.replicate ops.size false) = ops.size := by
  unfold yz left
  rw [vY.2 fun x _ => by rw [h0]; rfl]
  simp
 refine qC0 hX (P := P) (Q := Q) (K := K) (n := n) hok _ T new l' _ σ a w ⟨fun t ht => by have := hA t ht; rw [h1] at this; simpa using this, hT, fun d1 e d2 hh => ?_, h2, h4, hh, hp, fun x hxl => hx x (by rw [h1]; exact jz _ hxl), htx, fun x _ => h0 _, fun t _ x _ => h0 _, fun k' o _ hk => ?_, by simp, ⟨p, hi, ?_, hn, hd⟩⟩ hfuel
 · obtain ⟨q1, q2, q3, q4⟩ := h3 d1 e d2 hh
   exact ⟨q1, q2, fun _ => ⟨q3, q4⟩⟩
 · rw [h0] at hk; cases hk
 · have : zI (Tof (Array.replicate ops.size false)) env new = env := by
    have : ∀ (m : List PE), zI (Tof (Array.replicate ops.size false)) env m = env := by
     intro m
     induction m with
     | nil => rfl
     | cons x m ih => simp only [zI, vj, h0, jS, if_false] at ih ⊢; exact ih
    exact this new
   rw [this]
   exact hr
theorem qEq {m : Md} {f : FuncId} {fn : Func} {K : Ctx} {R : D → St → Prop} {k : List Item} {env : Env} {σ : St} {id : Nat} {l : List Oper} (hm : P.follows .mixedOrders = true) (hok : yx l.toArray fn.ntmps = true) (ord : List (Nat × Cls)) (hA : yS l.toArray ord = true)
 (h : Run P l.toArray NX (zk m P f fn K R k) ord env σ) (hx : ord.all (fun x => decide (x.2 ≠ .x)) = true := by rfl) : zk m P f fn K R (.code (.region id l.toArray true) :: k) env σ :=
 qpJ (Q := zk m P f fn K R k) (X := NX) (fun p a w hi hr hn hd => wpIn_region_any hm (qCs (X := NX) (fun _ _ _ h => h.elim) (md := m) (P := P) (Q := zk m P f fn K R k) (K := K) (n := fn.ntmps) hok [[]] ord (fun t ht => by rw [jn.1 ht, js]; exact hA) ⟨[], jn.2 rfl⟩ (fun t ht => .inl (jn.1 ht)) (fun t ht i t' j h _ => by rw [jn.1 ht] at h; cases h) (fun x hm => by simpa using jv.1 hx x hm) (fun t ht x hm => by rw [jn.1 ht] at hm; cases hm)
  (qkU (fun e s h t ht => by rw [jn.1 ht]; exact h) _ _ _ h) hi.drew (hr.grow (qhs p w)) hn hd)) (fun _ _ _ h => h.elim) (fun _ _ h => h)
theorem ga {m : Md} {f : FuncId} {fn : Func} {K : Ctx} {R : D → St → Prop} {k : List Item} {env : Env} {σ : St} {id : Nat} {l : List Oper} (ord : List (Nat × Cls)) (h : Run P l.toArray NX (zk m P f fn K R k) ord env σ) (hm : P.follows .mixedOrders = true := by kernel_rfl) (hok : yx l.toArray fn.ntmps = true := by kernel_rfl) (hA : yS l.toArray ord = true := by kernel_rfl) (hx : ord.all (fun x => decide (x.2 ≠ .x)) = true := by rfl) : zk m P f fn K R (.code (.region id l.toArray true) :: k) env σ := qEq hm hok ord hA h hx
def zbx : List (Nat × Cls) → List (Nat × Cls) → Bool
 | (i, .x) :: a, (j, .x) :: b => (yp a == some j) && (yp b == some i) && a.all (fun x => decide (x.2 ≠ .x)) && b.all (fun x => decide (x.2 ≠ .x))
 | _, _ => false
def okTwo (ops : Array Oper) (pre tA tB : List (Nat × Cls)) : Bool := yS ops (pre ++ tA) && yS ops (pre ++ tB) && pre.all (fun x => decide (x.2 ≠ .x)) && zbx tA tB
theorem qvv {tA tB : List (Nat × Cls)} (h : zbx tA tB = true) : ∃ i a j b, tA = (i, .x) :: a ∧ tB = (j, .x) :: b ∧ yp a = some j ∧ yp b = some i ∧ (∀ x ∈ a, x.2 ≠ .x) ∧ ∀ x ∈ b, x.2 ≠ .x := by
 match tA, tB, h with
 | (i, .x) :: a, (j, .x) :: b, h =>
  simp only [zbx, jj, beq_iff_eq] at h
  obtain ⟨⟨⟨h1, h2⟩, h3⟩, h4⟩ := h
  exact ⟨i, a, j, b, rfl, rfl, h1, h2, (fun x hx => by simpa using jv.1 h3 x hx), fun x hx => by simpa using jv.1 h4 x hx⟩
theorem qBW {m : Md} {f : FuncId} {fn : Func} {K : Ctx} {R : D → St → Prop} {k : List Item} {env : Env} {σ : St} {id : Nat} {l : List Oper} (hm : P.follows .mixedOrders = true) (hok : yx l.toArray fn.ntmps = true) (pre tA tB : List (Nat × Cls)) (hA : okTwo l.toArray pre tA tB = true) (J : Env → St → Prop)
 (h : Run P l.toArray NX (fun e s => Run P l.toArray NX J tA e s ∧ Run P l.toArray NX J tB e s) pre env σ) (hJ : ∀ e s, J e s → zk m P f fn K R k e s) : zk m P f fn K R (.code (.region id l.toArray true) :: k) env σ := by
 simp only [okTwo, jj] at hA
 obtain ⟨⟨⟨h1, h2⟩, h3⟩, h4⟩ := hA
 obtain ⟨i, ta, j, tb, rfl, rfl, e1, e2, e3, e4⟩ := qvv h4
 refine qpJ (Q := J) (X := NX) (fun p a w hi hr hn hd => wpIn_region_any hm (qCs (X := NX) (fun _ _ _ h => h.elim) (md := m) (P := P) (Q := J) (K := K) (n := fn.ntmps) hok [(i, .x) :: ta, (j, .x) :: tb] pre ?_ ⟨_, jd ..⟩ ?_ ?_ (fun x hm => by simpa using jv.1 h3 x hm) ?_ (qkU (fun e s h t ht => ?_) _ _ _ h) hi.drew (hr.grow (qhs p w)) hn hd)) (fun _ _ _ h => h.elim) hJ
 · intro t ht
   rcases jh.1 ht with rfl | ht
   · exact h1
   · rw [jn.1 ht]; exact h2
 · intro t ht
   rcases jh.1 ht with rfl | ht
   · exact .inr ⟨_, _, _, rfl, rfl⟩
   · rw [jn.1 ht]; exact .inr ⟨_, _, _, rfl, rfl⟩
 · intro t ht i' t' j' h hj
   rcases jh.1 ht with rfl | ht
   · injection h with _ h6
     subst h6
     rw [e1] at hj
     injection hj with hj
     subst hj
     exact ⟨_, jf _ (jn.2 rfl), _, rfl⟩
   · rw [jn.1 ht] at h
     injection h with _ h6
     subst h6
     rw [e2] at hj
     injection hj with hj
     subst hj
     exact ⟨_, jd .., _, rfl⟩
 · intro t ht x hx
   rcases jh.1 ht with rfl | ht
   · exact e3 x hx
   · rw [jn.1 ht] at hx
     exact e4 x hx
 · rcases jh.1 ht with rfl | ht
   · exact h.1
   · rw [jn.1 ht]; exact h.2
end
section
variable {P : Program} {X : Env → D → St → Prop} {Q : Env → St → Prop} {l : List Oper} {i : Nat} {o : Oper} {t : Nat} {d : D} {env : Env} {σ : St} {rest : List (Nat × Cls)} {c : Cls}
def z8 (l : List Oper) (env : Env) (o : Oper) : Option Bool :=
 match o.guard with
 | none => some true
 | some (j, want) =>
  match (l[j]?).bind (·.dst) with
  | none => none
  | some t =>
   match lk env t with
   | some (.bool b) => some (b == want)
   | some .undef => some false
   | _ => none
theorem qmu (l : List Oper) (env : Env) (o : Oper) : yG l.toArray env o = z8 l env o := by
 unfold yG z8
 simp only [vZ] <;> rfl
theorem qac (h : Q env σ) : Run P l.toArray X Q [] env σ := h
theorem r_d (hi : l[i]? = some o) (ht : o.dst = some t) (hw : z8 l env o = some true) (hs : zD P o (ev env) d) (h : Run P l.toArray X Q rest ((t, d) :: env) σ) : Run P l.toArray X Q ((i, .d) :: rest) env σ :=
 ⟨o, by simpa using hi, .inr (.inl ⟨by rw [qmu]; exact hw, d, hs, by rw [ht]; exact h⟩)⟩
theorem rd (e : (l[i]?, o.dst, z8 l env o) = (some o, some t, some true)) (hs : zD P o (ev env) d) (h : Run P l.toArray X Q rest ((t, d) :: env) σ) : Run P l.toArray X Q ((i, .d) :: rest) env σ := by
 injection e with h1 e
 injection e with h2 h3
 exact r_d h1 h2 h3 hs h
theorem r_r (hi : l[i]? = some o) (ht : o.dst = some t) (hw : z8 l env o = some true) (hs : zC P o (ev env) σ fun d' σ' => d' = d ∧ σ' = σ) (h : Run P l.toArray X Q rest ((t, d) :: env) σ) : Run P l.toArray X Q ((i, .r) :: rest) env σ :=
 ⟨o, by simpa using hi, .inr (.inl ⟨by rw [qmu]; exact hw, d, hs, by rw [ht]; exact h⟩)⟩
theorem er (e : (l[i]?, o.dst, z8 l env o) = (some o, some t, some true)) (hs : zC P o (ev env) σ fun d' σ' => d' = d ∧ σ' = σ) (h : Run P l.toArray X Q rest ((t, d) :: env) σ) : Run P l.toArray X Q ((i, .r) :: rest) env σ := by
 injection e with h1 e
 injection e with h2 h3
 exact r_r h1 h2 h3 hs h
theorem r_w {R : D → St → Prop} (hi : l[i]? = some o) (ht : o.dst = some t) (hw : z8 l env o = some true) (hs : zC P o (ev env) σ R) (h : ∀ d σ', R d σ' → Run P l.toArray X Q rest ((t, d) :: env) σ') : Run P l.toArray X Q ((i, .w) :: rest) env σ :=
 ⟨o, by simpa using hi, .inr (.inl ⟨by rw [qmu]; exact hw, R, hs.y, fun d σ' hR => by rw [ht]; exact h d σ' hR⟩)⟩
theorem ew {R : D → St → Prop} (e : (l[i]?, o.dst, z8 l env o) = (some o, some t, some true)) (hs : zC P o (ev env) σ R) (h : ∀ d σ', R d σ' → Run P l.toArray X Q rest ((t, d) :: env) σ') : Run P l.toArray X Q ((i, .w) :: rest) env σ := by
 injection e with h1 e
 injection e with h2 h3
 exact r_w h1 h2 h3 hs h
theorem r_w0 {R : D → St → Prop} (hi : l[i]? = some o) (ht : o.dst = none) (hw : z8 l env o = some true) (hs : zC P o (ev env) σ R) (h : ∀ d σ', R d σ' → Run P l.toArray X Q rest env σ') : Run P l.toArray X Q ((i, .w) :: rest) env σ :=
 ⟨o, by simpa using hi, .inr (.inl ⟨by rw [qmu]; exact hw, R, hs.y, fun d σ' hR => by rw [ht]; exact h d σ' hR⟩)⟩
theorem qfd {o' : List Ob} (hi : l[i]? = some o) (ht : o.dst = none) (hw : z8 l env o = some true) (hs : zC P o (ev env) σ fun _ σ' => σ' = o') (h : Run P l.toArray X Q rest env o') : Run P l.toArray X Q ((i, .w) :: rest) env σ :=
 r_w0 hi ht hw hs fun _ _ e2 => e2 ▸ h
theorem z9 {o' : List Ob} (e : (l[i]?, o.dst, z8 l env o) = (some o, none, some true)) (hs : zC P o (ev env) σ fun _ σ' => σ' = o') (h : Run P l.toArray X Q rest env o') : Run P l.toArray X Q ((i, .w) :: rest) env σ := by
 injection e with h1 e
 injection e with h2 h3
 exact qfd h1 h2 h3 hs h
theorem r_x {R : D → St → Prop} (hi : l[i]? = some o) (ht : o.dst = some t) (hw : z8 l env o = some true) (hs : zC P o (ev env) σ R) (h : ∀ d σ', R d σ' → Run P l.toArray X Q rest ((t, d) :: env) σ') : Run P l.toArray X Q ((i, .x) :: rest) env σ :=
 ⟨o, by simpa using hi, .inr (.inl ⟨by rw [qmu]; exact hw, R, hs.y, fun d σ' hR => by rw [ht]; exact h d σ' hR⟩)⟩
theorem zbu (hi : l[i]? = some o) (ht : o.dst = some t) (hw : z8 l env o = some true) (hs : zC P o (ev env) σ fun d' σ' => d' = d ∧ σ' = σ) (h : Run P l.toArray X Q rest ((t, d) :: env) σ) : Run P l.toArray X Q ((i, .w) :: rest) env σ :=
 r_w hi ht hw hs fun _ _ ⟨e1, e2⟩ => e1 ▸ e2 ▸ h
theorem r_xr (hi : l[i]? = some o) (ht : o.dst = some t) (hw : z8 l env o = some true) (hs : zC P o (ev env) σ fun d' σ' => d' = d ∧ σ' = σ) (h : Run P l.toArray X Q rest ((t, d) :: env) σ) : Run P l.toArray X Q ((i, .x) :: rest) env σ :=
 r_x hi ht hw hs fun _ _ ⟨e1, e2⟩ => e1 ▸ e2 ▸ h
theorem qEb (hi : l[i]? = some o) (ht : o.dst = some t) (hw : z8 l env o = some false) (h : Run P l.toArray X Q rest ((t, .undef) :: env) σ) : Run P l.toArray X Q ((i, c) :: rest) env σ :=
 ⟨o, by simpa using hi, .inl ⟨by rw [qmu]; exact hw, by rw [ht]; exact h⟩⟩
theorem rh (e : (l[i]?, o.dst, z8 l env o) = (some o, some t, some false)) (h : Run P l.toArray X Q rest ((t, .undef) :: env) σ) : Run P l.toArray X Q ((i, c) :: rest) env σ := by
 injection e with h1 e
 injection e with h2 h3
 exact qEb h1 h2 h3 h
theorem qDE (hi : l[i]? = some o) (ht : o.dst = none) (hw : z8 l env o = some false) (h : Run P l.toArray X Q rest env σ) : Run P l.toArray X Q ((i, c) :: rest) env σ :=
 ⟨o, by simpa using hi, .inl ⟨by rw [qmu]; exact hw, by rw [ht]; exact h⟩⟩
theorem qAJ {P : Program} {Q : Env → St → Prop} {l : List Oper} : ∀ (rest : List (Nat × Cls)) (env env' : Env) (σ : St), (∀ t, lk env t = lk env' t) → Run P l.toArray X Q rest env σ → (∀ e e' : Env, ∀ σ, (∀ t, lk e t = lk e' t) → Q e σ → Q e' σ) → Run P l.toArray X Q rest env' σ := by
 intro rest
 induction rest with
 | nil => exact fun env env' σ he h hq => hq env env' σ he h
 | cons x rest ih =>
  obtain ⟨i, c⟩ := x
  intro env env' σ he h hq
  obtain ⟨o, ho, h⟩ := h
  have hwe : yG l.toArray env' o = yG l.toArray env o := by
   unfold yG
   split
   rfl
   split
   rfl
   rw [he]
  have hee : ev env' = ev env := by
   funext x
   cases x <;> simp [ev, he]
  have hput : ∀ d, ∀ t, lk (env.put o.dst d) t = lk (env'.put o.dst d) t := fun d t => by simp only [qhH, he]
  refine ⟨o, ho, ?_⟩
  rw [hwe, hee]
  rcases h with ⟨hw, h⟩ | ⟨hw, h⟩ | h
  exact .inl ⟨hw, ih _ _ _ (hput _) h hq⟩
  rotate_left
  obtain ⟨hw, e₀, d, τ, he₀, hx, h⟩ := h
  exact .inr (.inr ⟨hw, e₀, d, τ, fun t => (he₀ t).trans (he t), hx, h⟩)
  refine .inr (.inl ⟨hw, ?_⟩)
  cases c with
  | d => obtain ⟨d, h1, h2⟩ := h; exact ⟨d, h1, ih _ _ _ (hput d) h2 hq⟩
  | r => obtain ⟨d, h1, h2⟩ := h; exact ⟨d, h1, ih _ _ _ (hput d) h2 hq⟩
  | w => obtain ⟨R, h1, h2⟩ := h; exact ⟨R, h1, fun d σ' hR => ih _ _ _ (hput d) (h2 d σ' hR) hq⟩
  | x => obtain ⟨R, h1, h2⟩ := h; exact ⟨R, h1, fun d σ' hR => ih _ _ _ (hput d) (h2 d σ' hR) hq⟩
theorem qoq {m : Md} {f : FuncId} {fn : Func} {K : Ctx} {R : D → St → Prop} {k : List Item} (e e' : Env) (σ : St) (h : ∀ t, lk e t = lk e' t) (hg : zk m P f fn K R k e σ) : zk m P f fn K R k e' σ :=
 quB e (fun t d ht => ⟨d, by rw [← h t]; exact ht, Wk.refl d⟩) hg
theorem qvq {m : Md} {f : FuncId} {fn : Func} {K : Ctx} {R : D → St → Prop} {k : List Item} (s : Nat) {b : Bool} (hs : lk env s = some (.bool b)) (h1 : b = true → Run P l.toArray X (zk m P f fn K R k) rest ((s, .bool true) :: env) σ) (h2 : b = false → Run P l.toArray X (zk m P f fn K R k) rest ((s, .bool false) :: env) σ) : Run P l.toArray X (zk m P f fn K R k) rest env σ := by
 have he : ∀ t, lk ((s, D.bool b) :: env) t = lk env t := fun t => by
  rw [qiY]
  split
  rename_i h; subst h; exact hs.symm
  rfl
 cases b with
 | true => exact qAJ rest _ env σ he (h1 rfl) qoq
 | false => exact qAJ rest _ env σ he (h2 rfl) qoq
theorem qtW {m : Md} {f : FuncId} {fn : Func} {K : Ctx} {R : D → St → Prop} {k : List Item} (s : Nat) {b : Bool} (hs : lk env s = some (.bool b)) (h1 : b = true → zk m P f fn K R k ((s, .bool true) :: env) σ) (h2 : b = false → zk m P f fn K R k ((s, .bool false) :: env) σ) : zk m P f fn K R k env σ := by
 have he : ∀ t, lk ((s, D.bool b) :: env) t = lk env t := fun t => by
  rw [qiY]
  split
  rename_i h; subst h; exact hs.symm
  rfl
 cases b with
 | true => exact qoq _ env σ he (h1 rfl)
 | false => exact qoq _ env σ he (h2 rfl)
end
section
variable {P : Program} {o : Oper} {ρ : Operand → Option D} {d : D}
theorem qeF (h : ∀ (p : Addr → Prop) (a : Act) (w : World), (∀ x ∈ o.op.operands, ∀ d, ρ x = some d → Rep p w d (a.eval x)) → ∃ v, (execOp a.eval o).run P w = .ok (.value v) w ∧ Rep p w d v) : zD P o ρ d := fun σ K p a w hi hx => by
 obtain ⟨v, h1, h2⟩ := h p a w hx
 unfold Oper.wp
 rw [h1]
 exact ⟨v, d, σ, p, rfl, ⟨rfl, rfl⟩, h2, hi, zT.refl p w⟩
theorem qEp {x : Operand} (ho : o.op = .move x) (hx : ρ x = some d) : zD P o ρ d := qeF fun p a w h =>
 ⟨a.eval x, by unfold execOp; rw [ho]; rfl, h x (by rw [ho]; simp [Op.operands]) d hx⟩
theorem rf {P : Program} {X : Env → D → St → Prop} {Q : Env → St → Prop} {rest : List (Nat × Cls)} {env : Env} {σ : St} {l : List Oper} {i t : Nat} {o : Oper} {d : D} {x : Operand} (e : (l[i]?, o.dst, z8 l env o, o.op, ev env x) = (some o, some t, some true, .move x, some d)) (h : Run P l.toArray X Q rest ((t, d) :: env) σ) : Run P l.toArray X Q ((i, .d) :: rest) env σ := by
 injection e with h1 e
 injection e with h2 e
 injection e with h3 e
 injection e with h4 h5
 exact r_d h1 h2 h3 (qEp h4 h5) h
theorem qAX {x : Operand} (ho : o.op = .assign x) (hx : ρ x = some d) : zD P o ρ d := qeF fun p a w h =>
 ⟨a.eval x, by unfold execOp; rw [ho]; rfl, h x (by rw [ho]; simp [Op.operands]) d hx⟩
theorem rc {P : Program} {X : Env → D → St → Prop} {Q : Env → St → Prop} {rest : List (Nat × Cls)} {env : Env} {σ : St} {l : List Oper} {i t : Nat} {o : Oper} {d : D} {x : Operand} (e : (l[i]?, o.dst, z8 l env o, o.op, ev env x) = (some o, some t, some true, .assign x, some d)) (h : Run P l.toArray X Q rest ((t, d) :: env) σ) : Run P l.toArray X Q ((i, .d) :: rest) env σ := by
 injection e with h1 e
 injection e with h2 e
 injection e with h3 e
 injection e with h4 h5
 exact r_d h1 h2 h3 (qAX h4 h5) h
theorem qCv {c x y : Operand} {b : Bool} (ho : o.op = .pick c x y) (hc : ρ c = some (.bool b)) (hx : b = true → ρ x = some d) (hy : b = false → ρ y = some d) : zD P o ρ d := qeF fun p a w h => by
 have h1 := h c (by rw [ho]; simp [Op.operands]) _ hc
 simp only [Rep] at h1
 cases b with
 | true => exact ⟨a.eval x, by unfold execOp; rw [ho]; simp [h1, asBool], h x (by rw [ho]; simp [Op.operands]) d (hx rfl)⟩
 | false => exact ⟨a.eval y, by unfold execOp; rw [ho]; simp [h1, asBool], h y (by rw [ho]; simp [Op.operands]) d (hy rfl)⟩
theorem qDj {c x y : Operand} (ho : o.op = .pick c x y) (hc : ρ c = some (.bool true)) (hx : ρ x = some d) : zD P o ρ d := qCv ho hc (fun _ => hx) fun h => by cases h
theorem qDK {c x y : Operand} (ho : o.op = .pick c x y) (hc : ρ c = some (.bool false)) (hx : ρ y = some d) : zD P o ρ d := qCv ho hc (fun h => by cases h) fun _ => hx
theorem qEP {x : Operand} {t : TypeId} {b : Bool} (ho : o.op = .unOp .not t x) (hx : ρ x = some (.bool b)) : zD P o ρ (.bool (!b)) := qeF fun p a w h => by
 have h1 := h x (by rw [ho]; simp [Op.operands]) _ hx
 simp only [Rep] at h1
 exact ⟨.bool (!b), by unfold execOp; rw [ho]; simp [h1, Op.unary], by simp only [Rep]⟩
theorem qz5 {x : Operand} {ix : Nat} {ds : List D} (ho : o.op = .extract x ix) (hx : ρ x = some (.tup ds)) (hd : ds[ix]? = some d) : zD P o ρ d := qeF fun p a w h => by
 have h1 := h x (by rw [ho]; simp [Op.operands]) _ hx
 simp only [Rep] at h1
 obtain ⟨vs, h1, h2⟩ := h1
 obtain ⟨v, h3, h4⟩ := h2.at_ hd
 exact ⟨v, by unfold execOp; rw [ho]; simp [h1, Instr.extract, h3], h4⟩
/-! ### numbers and strings -/
def icmp : BinOp → Int → Int → Option Bool
 | .eql, x, y => some (x == y)
 | .neq, x, y => some (x != y)
 | .lss, x, y => some (decide (x < y))
 | .leq, x, y => some (decide (x ≤ y))
 | .gtr, x, y => some (decide (x > y))
 | .geq, x, y => some (decide (x ≥ y))
 | _, _, _ => none
theorem qER {op : BinOp} {t t' : TypeId} {x y : Operand} {k : IntKind} {m n : Int} {b : Bool} (ho : o.op = .binOp op t x y t') (hx : ρ x = some (.int k m)) (hy : ρ y = some (.int k n)) (hb : icmp op m n = some b) : zD P o ρ (.bool b) := qeF fun p a w h => by
 have h1 := h x (by rw [ho]; simp [Op.operands]) _ hx
 have h2 := h y (by rw [ho]; simp [Op.operands]) _ hy
 simp only [Rep] at h1 h2
 refine ⟨.bool b, ?_, by simp only [Rep]⟩
 unfold execOp
 rw [ho]
 simp only [h1.1, h2.1]
 cases op <;> simp [icmp] at hb <;> subst hb <;> simp [binOp, eqGuard, Op.intCmp]
def iar : BinOp → Int → Int → Option Int
 | .add, x, y => some (x + y)
 | .sub, x, y => some (x - y)
 | .mul, x, y => some (x * y)
 | _, _, _ => none
theorem qos (k : IntKind) (n : Int) : k.wrap (k.wrap n) = k.wrap n := by
 cases k <;> simp [IntKind.wrap, IntKind.bits, IntKind.signed] <;> split <;> split <;> omega
theorem qeg {op : BinOp} {t t' : TypeId} {x y : Operand} {k : IntKind} {m n r : Int} (ho : o.op = .binOp op t x y t') (hx : ρ x = some (.int k m)) (hy : ρ y = some (.int k n)) (hb : iar op m n = some r) : zD P o ρ (.int k (k.wrap r)) := qeF fun p a w h => by
 have h1 := h x (by rw [ho]; simp [Op.operands]) _ hx
 have h2 := h y (by rw [ho]; simp [Op.operands]) _ hy
 simp only [Rep] at h1 h2
 refine ⟨.int k (k.wrap r), ?_, by simpa only [Rep, true_and] using qos k r⟩
 unfold execOp
 rw [ho]
 simp only [h1.1, h2.1]
 cases op <;> simp [iar] at hb <;> subst hb <;> simp [binOp, eqGuard, Op.intArith]
theorem wrap64 {n : Int} (h : -9223372036854775808 ≤ n ∧ n < 9223372036854775808) : IntKind.i64.wrap n = n := by
 simp only [IntKind.wrap, IntKind.bits, IntKind.signed]
 simp
 split <;> omega
theorem qnA {n : Int} (h : IntKind.i64.wrap n = n) : -9223372036854775808 ≤ n ∧ n < 9223372036854775808 := by
 simp only [IntKind.wrap, IntKind.bits, IntKind.signed] at h
 simp at h
 split at h <;> omega
theorem zbs {op : BinOp} {t t' : TypeId} {x y : Operand} {m n r : Int} (ho : o.op = .binOp op t x y t') (hx : ρ x = some (.int .i64 m)) (hy : ρ y = some (.int .i64 n)) (hb : iar op m n = some r) (hr : -9223372036854775808 ≤ r ∧ r < 9223372036854775808) : zD P o ρ (.int .i64 r) := by
 have := qeg (P := P) ho hx hy hb
 rw [wrap64 hr] at this
 exact this
def scmp : BinOp → ByteArray → ByteArray → Option Bool
 | .eql, x, y => some (x.toList == y.toList)
 | .neq, x, y => some (!(x.toList == y.toList))
 | .lss, x, y => some (Op.bytesLess x.toList y.toList)
 | .leq, x, y => some (Op.bytesLess x.toList y.toList || x.toList == y.toList)
 | .gtr, x, y => some (!(Op.bytesLess x.toList y.toList || x.toList == y.toList))
 | .geq, x, y => some (!Op.bytesLess x.toList y.toList)
 | _, _, _ => none
theorem qgP {op : BinOp} {t t' : TypeId} {x y : Operand} {m n : ByteArray} {b : Bool} (ho : o.op = .binOp op t x y t') (hx : ρ x = some (.str m)) (hy : ρ y = some (.str n)) (hb : scmp op m n = some b) : zD P o ρ (.bool b) := qeF fun p a w h => by
 have h1 := h x (by rw [ho]; simp [Op.operands]) _ hx
 have h2 := h y (by rw [ho]; simp [Op.operands]) _ hy
 simp only [Rep] at h1 h2
 refine ⟨.bool b, ?_, by simp only [Rep]⟩
 unfold execOp
 rw [ho]
 simp only [h1.1, h2.1]
 cases op <;> simp only [scmp, Option.some.injEq, reduceCtorEq] at hb <;> subst hb <;> simp [binOp, eqGuard, Op.stringOp]
/-! ### lists -/
inductive AsL : D → List D → Prop
 | lst (l : List D) : AsL (.lst l) l
 | full (l : List D) : AsL (.full l) l
 | own (u : Value) (l : List D) : AsL (.own u l) l
theorem AsL.rep {d : D} {l : List D} {p : Addr → Prop} {w : World} {v : Value} (h : AsL d l) (hv : Rep p w d v) : ∃ A c xs, v = .slice A l.length c ∧ l.length ≤ c ∧ c ≤ 9223372036854775807 ∧ RdP p w A xs ∧ zz p w l xs ∧ ∀ u ∈ xs, u.oneCell' = true := by
 cases h with
 | lst => simpa only [Rep] using hv
 | full => simp only [Rep] at hv; obtain ⟨A, xs, h1, h2, h3⟩ := hv; exact ⟨A, _, xs, h1, jk _, h2, h3⟩
 | own => simp only [Rep] at hv; obtain ⟨rfl, hv⟩ := hv; exact hv
def asL : D → Option (List D)
 | .lst l => some l
 | .full l => some l
 | .own _ l => some l
 | _ => none
theorem asl {d : D} {l : List D} (h : asL d = some l) : AsL d l := by
 cases d <;> simp only [asL, Option.some.injEq, reduceCtorEq] at h <;> subst h <;> constructor
theorem qES {x : Operand} {t e : TypeId} {dx : D} {l : List D} (ho : o.op = .call { callee := .builtin .len, args := #[x], argTypes := #[t] }) (ht : P.underlying t = some (.slice e)) (hx : ρ x = some dx) (hl : AsL dx l) : zD P o ρ (.int .i64 (l.length : Int)) := qeF fun p a w h => by
 obtain ⟨A, c, xs, h1, h2, h3, _⟩ := hl.rep (h x (by rw [ho]; simp [Op.operands, Call.operands]) _ hx)
 refine ⟨.int .i64 (l.length : Int), ?_, by simpa only [Rep, true_and] using wrap64 oa⟩
 unfold execOp
 rw [ho]
 simp [resolve, invoke, builtin, h1, Builtin.len_, run_underlying ht, goInt]
theorem qD7 {x : Operand} {t e : TypeId} {b s lo n : Nat} (ho : o.op = .call { callee := .builtin .len, args := #[x], argTypes := #[t] }) (ht : P.underlying t = some (.slice e)) (hx : ρ x = some (.arr b s lo n)) : zD P o ρ (.int .i64 (n : Int)) := qeF fun p a w h => by
 have h1 := h x (by rw [ho]; simp [Op.operands, Call.operands]) _ hx
 simp only [Rep] at h1
 obtain ⟨A, c, h1, h2, h3, _⟩ := h1
 refine ⟨.int .i64 (n : Int), ?_, by simpa only [Rep, true_and] using wrap64 oa⟩
 unfold execOp
 rw [ho]
 simp [resolve, invoke, builtin, h1, Builtin.len_, run_underlying ht, goInt]
theorem qDI {t e : TypeId} {x ix : Operand} {dx : D} {l : List D} {k : IntKind} {n : Int} {j s : Nat} (ho : o.op = .indexAddr t x ix) (ht : P.underlying t = some (.slice e)) (hs : (P.info? e).map (·.size) = some s) (hs0 : 0 < s) (hx : ρ x = some dx) (hl : AsL dx l) (hix : ρ ix = some (.int k n)) (hn : n = (j : Int)) (hd : l[j]? = some d) (hall : zJ s l) (hp : d.plain = true) : zD P o ρ (.ptr d) := qeF fun p a w h => by
 obtain ⟨A, c, xs, h1, h2, h3, h4, h5, h6⟩ := hl.rep (h x (by rw [ho]; simp [Op.operands]) _ hx)
 have h7 := h ix (by rw [ho]; simp [Op.operands]) _ hix
 simp only [Rep] at h7
 subst hn
 have hj := (jt.1 hd).1
 obtain ⟨v, hv, hcell⟩ := h5.at_cell hd
 obtain ⟨i, hi, hin⟩ := jQ.1 hs
 have hsz := Rep.sz hv
 rw [(hall.take j).szs] at hcell
 have hmin : (l.take j).length = j := by simp; omega
 rw [hmin] at hcell
 have hlen : xs.length = l.length * s := by rw [h5.len, hall.szs]
 rcases h4 with h4 | ⟨b, o', rfl, hc⟩
 exfalso
 have : 0 < l.length * s := vw oa hs0
 rw [h4] at hlen
 simp at hlen
 omega
 refine ⟨.pointer (some ⟨b, o' + j * s, none⟩), ?_, ?_⟩
 unfold execOp
 rw [ho]
 have hlt : ((j : Int) < (l.length : Int)) := by omega
 simp [h1, h7.1, Instr.indexAt, asIntOf, run_underlying ht, sizeOf, typeInfo, hi, hin, hj, zbk]
 simp only [Rep]
 refine ⟨b, o' + j * s, v, rfl, .inr ⟨b, o' + j * s, rfl, fun m u hu => ?_⟩, hv, Rep.one hv hp⟩
 have := hc _ _ (hcell m u hu)
 rw [← jJ] at this
 exact this
end
section
variable {P : Program} {o : Oper} {ρ : Operand → Option D} {d : D}
def Fld (P : Program) (s : TypeId) (f off : Nat) : Prop := ∃ fields fld n, P.underlying s = some (.struct fields) ∧ fields[f]? = some fld ∧ fld.offset = off ∧ (P.info? fld.type).map (·.size) = some n ∧ n ≠ 0
theorem qnU {s : TypeId} {f off : Nat} (h : Fld P s f off) (w : World) (b ofs : Nat) : (Instr.fieldAt s (.pointer (some ⟨b, ofs, none⟩)) f).run P w = .ok (.pointer (some ⟨b, ofs + off, none⟩)) w := by
 obtain ⟨fields, fld, n, h1, h2, rfl, h3, h4⟩ := h
 obtain ⟨i, hi, hn⟩ := jQ.1 h3
 have hn' : ¬ i.size = 0 := by omega
 simp [Instr.fieldAt, run_underlying h1, h2, Instr.sureAddr, fieldPlace, sizeOf, typeInfo, hi, hn', zbk]
theorem qG {s : TypeId} {x : Operand} {f off : Nat} {fs : List D} (ho : o.op = .fieldAddr s x f) (hF : Fld P s f off) (hx : ρ x = some (.ptr (.agg fs))) (hd : fs[f]? = some d) (hoff : szs (fs.take f) = off) (hp : d.plain = true) : zD P o ρ (.ptr d) := qeF fun p a w h => by
 have h1 := h x (by rw [ho]; simp [Op.operands]) _ hx
 simp only [Rep] at h1
 obtain ⟨b, o', u, h1, h2, ⟨cs, rfl, h3, _⟩, h4⟩ := h1
 obtain ⟨v, hv, hcell⟩ := h3.at_cell hd
 refine ⟨.pointer (some ⟨b, o' + off, none⟩), ?_, ?_⟩
 unfold execOp
 rw [ho]
 simp [h1, qnU hF]
 simp only [Rep]
 refine ⟨b, o' + off, v, rfl, ?_, hv, Rep.one hv hp⟩
 rcases h2 with h2 | ⟨b', o'', he, h2⟩
 refine .inl (Ji.2 fun y hy => ?_)
 obtain ⟨j, hj⟩ := List.mem_iff_getElem?.1 hy
 have := hcell j y hj
 simp [Value.cells] at h2
 rw [h2] at this
 simp at this
 injection he with he; injection he with e1 e2; subst e1 e2
 refine .inr ⟨b, o' + off, rfl, fun j y hj => ?_⟩
 have := h2 _ y (by simpa [Value.cells] using hcell j y hj)
 rw [hoff, ← jJ] at this
 exact this
theorem qg {s : TypeId} {x : Operand} {f off b ofs : Nat} {path : List Nat} (ho : o.op = .fieldAddr s x f) (hF : Fld P s f off) (hx : ρ x = some (.ref b ofs path)) : zD P o ρ (.ref b (ofs + off) (path ++ [f])) := qeF fun p a w h => by
 have h1 := h x (by rw [ho]; simp [Op.operands]) _ hx
 simp only [Rep] at h1
 refine ⟨.pointer (some ⟨b, ofs + off, none⟩), ?_, by simp only [Rep]⟩
 unfold execOp
 rw [ho]
 simp [h1, qnU hF]
theorem qzV {t : TypeId} {x : Operand} {n : Nat} (ho : o.op = .load t x) (hx : ρ x = some (.ptr d)) (ht : Ty P t d.isAgg n) (hn : sz d = n) : zD P o ρ d := qeF fun p a w h => by
 have h1 := h x (by rw [ho]; simp [Op.operands]) _ hx
 simp only [Rep] at h1
 obtain ⟨b, o', u, h1, h2, h3, h4⟩ := h1
 have hl := qjj (P := P) (b := b) (o := o') ht hn h3 (fun j y hy => by
  rcases h2 with h2 | ⟨b', o'', he, h2⟩
  rw [h2] at hy; simp at hy
  injection he with he; injection he with e1 e2; subst e1 e2
  exact (h2 j y hy).2)
 refine ⟨u, ?_, h3⟩
 unfold execOp
 rw [ho]
 simp [h1, Instr.loadAt, Instr.sureAddr, hl]
theorem qoY {fn : Fn} {first cap : Array Operand} {fs cs : List D} (ho : o.op = .makeFunc fn first cap) (hf : first.toList.mapM ρ = some fs) (hc : cap.toList.mapM ρ = some cs) : zD P o ρ (.clo fn fs cs) := qeF fun p a w h => by
 have key : ∀ (l : List Operand) (ds : List D), (∀ x ∈ l, ∀ d, ρ x = some d → Rep p w d (a.eval x)) → l.mapM ρ = some ds → zH p w ds (l.map a.eval) := by
  intro l
  induction l with
  | nil => intro ds _ hm; simp at hm; subst hm; exact zH.nil _ _
  | cons x l ih =>
   intro ds hh hm
   simp only [List.mapM_cons] at hm
   cases hx : ρ x with
   | none => simp [hx] at hm
   | some e =>
    cases hl : l.mapM ρ with
    | none => simp [hx, hl] at hm
    | some es =>
     simp [hx, hl] at hm
     subst hm
     exact zH.cons (hh x (jd ..) e hx) (ih es (fun y hy => hh y (jf _ hy)) hl)
 refine ⟨.func fn (first.map a.eval) (cap.map a.eval), ?_, ?_⟩
 unfold execOp
 rw [ho]
 simp [Instr.makeFunc]
 simp only [Rep]
 refine ⟨first.toList.map a.eval, cap.toList.map a.eval, ?_, key _ _ (fun x hx => h x (by rw [ho]; simp only [Op.operands]; exact v7.2 (.inl (by simpa using hx)))) hf, key _ _ (fun x hx => h x (by rw [ho]; simp only [Op.operands]; exact v7.2 (.inr (by simpa using hx)))) hc⟩
 congr 1 <;> (apply j3.1; simp)
/-! ### structs -/
def za5 : Value → Bool
 | .slice none 0 0 => true
 | _ => false
theorem quM {u : Value} (h : za5 u = true) : u = .slice none 0 0 := by
 unfold za5 at h
 split at h
 rfl
 cases h
mutual
def zc : D → List Value
 | .bool b => [.bool b]
 | .int k n => [.int k n]
 | .str s => [.string s]
 | .lst [] => [.slice none 0 0]
 | .own _ _ => [.slice none 0 0]
 | .vec _ _ => [.slice none 0 0]
 | .nilf => [.nilFunc]
 | .nilm => [.map none]
 | .nilp => [.pointer none]
 | .agg fs => zcs fs
 | _ => []
def zcs : List D → List Value
 | [] => []
 | d :: ds => zc d ++ zcs ds
end
mutual
def zok : D → Bool
 | .bool _ => true
 | .int k n => k.wrap n == n
 | .str s => decide (s.size ≤ 9223372036854775807)
 | .lst [] => true
 | .own u l => za5 u && l.isEmpty
 | .vec u n => za5 u && n == 0
 | .nilf => true
 | .nilm => true
 | .nilp => true
 | .agg fs => zbY fs
 | _ => false
def zbY : List D → Bool
 | [] => true
 | d :: ds => zok d && zbY ds
end
mutual
theorem qCf (p : Addr → Prop) (w : World) : ∀ (d : D), zok d = true → ∃ v, Rep p w d v ∧ v.cells.toList = zc d ∧ ∀ u ∈ zc d, u.oneCell' = true
 | .bool b, _ => ⟨.bool b, by simp only [Rep], rfl, by simp [zc, Value.oneCell']⟩
 | .int k n, h => ⟨.int k n, by simpa [Rep, zok] using h, rfl, by simp [zc, Value.oneCell']⟩
 | .str s, h => ⟨.string s, by simpa [Rep, zok] using h, rfl, by simp [zc, Value.oneCell']⟩
 | .lst [], _ => ⟨.slice none 0 0, by simp only [Rep]; exact ⟨none, 0, [], rfl, by simp, by omega, .inl rfl, zz.nil _ _, by simp⟩, rfl, by simp [zc, Value.oneCell']⟩
 | .lst (_ :: _), h => by simp [zok] at h
 | .nilf, _ => ⟨.nilFunc, by simp only [Rep], rfl, by simp [zc, Value.oneCell']⟩
 | .nilm, _ => ⟨.map none, by simp only [Rep], rfl, by simp [zc, Value.oneCell']⟩
 | .nilp, _ => ⟨.pointer none, by simp only [Rep], rfl, by simp [zc, Value.oneCell']⟩
 | .agg fs, h => by
  have h' : zbY fs = true := by simpa [zok] using h
  obtain ⟨h1, h2⟩ := qvr p w fs h'
  exact ⟨.agg (zcs fs).toArray, by simp only [Rep]; exact ⟨zcs fs, rfl, h1, h2⟩, by simp [Value.cells, zc], by simpa [zc] using h2⟩
 | .full _, h => by simp [zok] at h
 | .own u l, h => by
  simp only [zok, jj] at h
  obtain rfl := quM h.1
  obtain rfl : l = [] := by simpa using h.2
  exact ⟨.slice none 0 0, by simp only [Rep]; exact ⟨trivial, none, 0, [], rfl, by simp, by omega, .inl rfl, zz.nil _ _, by simp⟩, by simp [zc, Value.cells], by simp [zc, Value.oneCell']⟩
 | .vec u n, h => by
  simp only [zok, jj, beq_iff_eq] at h
  obtain rfl := quM h.1
  obtain rfl := h.2
  exact ⟨.slice none 0 0, by simp only [Rep]; exact ⟨trivial, none, 0, rfl, by omega, by omega⟩, by simp [zc, Value.cells], by simp [zc, Value.oneCell']⟩
 | .ptr _, h => by simp [zok] at h
 | .ref _ _ _, h => by simp [zok] at h
 | .mref _ _ _ _ _, h => by simp [zok] at h
 | .arr _ _ _ _, h => by simp [zok] at h
 | .clo _ _ _, h => by simp [zok] at h
 | .map _, h => by simp [zok] at h
 | .ifc _ _, h => by simp [zok] at h
 | .nili, h => by simp [zok] at h
 | .tup _, h => by simp [zok] at h
 | .undef, h => by simp [zok] at h
theorem qvr (p : Addr → Prop) (w : World) : ∀ (ds : List D), zbY ds = true → zz p w ds (zcs ds) ∧ ∀ u ∈ zcs ds, u.oneCell' = true
 | [], _ => ⟨zz.nil _ _, by simp [zcs]⟩
 | d :: ds, h => by
  simp only [zbY, jj] at h
  obtain ⟨v, h1, h2, h3⟩ := qCf p w d h.1
  obtain ⟨h4, h5⟩ := qvr p w ds h.2
  refine ⟨?_, fun u hu => ?_⟩
  rw [zcs, ← h2]; exact zz.cons h1 h4
  rcases jl.1 (by simpa [zcs] using hu) with hu | hu
  exact h3 u hu
  exact h5 u hu
end
def lay (off : Nat) : List D → List (Nat × Nat)
 | [] => []
 | d :: ds => (off, sz d) :: lay (off + sz d) ds
theorem qwO : ∀ (ds : List D) (off i : Nat) (d : D), ds[i]? = some d → (lay off ds)[i]? = some (off + szs (ds.take i), sz d)
 | [], _, _, _, h => by simp at h
 | e :: ds, off, 0, d, h => by simp at h; subst h; simp [lay, szs]
 | e :: ds, off, i + 1, d, h => by
  simp at h
  rw [lay, v8, qwO ds _ i d h]
  simp [szs, jJ]
def zQ (P : Program) (t : TypeId) (zs : List D) : Prop := zbY zs = true ∧ ∃ it fields, P.info? t = some it ∧ it.zero = some (.agg (zcs zs).toArray) ∧ P.underlying t = some (.struct fields) ∧ fields.toList.mapM (fun f => (P.info? f.type).map fun i => (f.offset, i.size)) = some (lay 0 zs)
theorem zQ.mk {t : TypeId} {zs : List D} {fields : Array Field} (h1 : zbY zs = true) (h2 : (P.info? t).map (·.zero) = some (some (.agg (zcs zs).toArray))) (h3 : P.underlying t = some (.struct fields)) (h4 : fields.toList.mapM (fun f => (P.info? f.type).map fun i => (f.offset, i.size)) = some (lay 0 zs)) : zQ P t zs := by
 obtain ⟨it, h5, h6⟩ := jQ.1 h2
 exact ⟨h1, it, fields, h5, h6, h3, h4⟩
theorem qww (off : Nat) : ∀ (xs : List Value) (k : Nat) (cells : Array Value), off + k + xs.length ≤ cells.size →
 ((xs.zipIdx k).foldl (fun cs (p : Value × Nat) => cs.setIfInBounds (off + p.2) p.1) cells).toList = cells.toList.take (off + k) ++ xs ++ cells.toList.drop (off + k + xs.length)
 | [], k, cells, _ => by simp
 | x :: xs, k, cells, h => by
  simp only [List.zipIdx_cons, vj]
  simp only [jg] at h
  rw [qww off xs (k + 1) _ oe]
  have hlt : off + k < cells.toList.length := by simp; omega
  simp only [Array.toList_setIfInBounds, jg]
  have e1 : (cells.toList.set (off + k) x).take (off + (k + 1)) = cells.toList.take (off + k) ++ [x] := by
   rw [← jJ, List.take_succ_eq_append_getElem (by simpa using hlt), List.take_set_of_le (jk _)]
   simp
  have e2 : (cells.toList.set (off + k) x).drop (off + (k + 1) + xs.length) = cells.toList.drop (off + k + (xs.length + 1)) := by
   rw [List.drop_set_of_lt oa]
   congr 1
   omega
  rw [e1, e2]
  simp
theorem qw4 (place : Nat → Option (Nat × Nat)) (cells : Array Value) (i off : Nat) (v : Value) (rest : List (Nat × Value)) (hp : place i = some (off, v.cells.size)) (hs : off + v.cells.size ≤ cells.size) :
 Instr.fill place cells ((i, v) :: rest) = Instr.fill place (cells.toList.take off ++ v.cells.toList ++ cells.toList.drop (off + v.cells.size)).toArray rest := by
 rw [Instr.fill]
 simp only [hp]
 rw [if_neg oe]
 congr 1
 apply j3.1
 have := qww off v.cells.toList 0 cells oe
 simp only [j4, jW] at this
 rw [← this, ← Array.foldl_toList]
 simp [Array.toList_zipIdx]
inductive Fill : List D → List (Nat × D) → List D → Prop
 | nil (zs : List D) : Fill zs [] zs
 | cons {zs zs' : List D} {ps : List (Nat × D)} {i : Nat} {z d : D} (hz : zs[i]? = some z) (hs : sz d = sz z) (hp : d.plain = true) (h : Fill (zs.set i d) ps zs') : Fill zs ((i, d) :: ps) zs'
inductive Pts (ρ : Operand → Option D) : List (Nat × Operand) → List (Nat × D) → Prop
 | nil : Pts ρ [] []
 | cons {i : Nat} {x : Operand} {e d : D} {ps : List (Nat × Operand)} {ds : List (Nat × D)} (hx : ρ x = some e) (hw : Wk e d) (h : Pts ρ ps ds) : Pts ρ ((i, x) :: ps) ((i, d) :: ds)
theorem Pts.oc {ρ : Operand → Option D} {i : Nat} {x : Operand} {d : D} {ps : List (Nat × Operand)} {ds : List (Nat × D)} (h : ρ x = some d) (k : Pts ρ ps ds) : Pts ρ ((i, x) :: ps) ((i, d) :: ds) := .cons h (Wk.refl d) k
theorem qy7 : ∀ (zs : List D) (i : Nat) (z d : D), zs[i]? = some z → sz d = sz z → szs (zs.set i d) = szs zs
 | [], _, _, _, h, _ => by simp at h
 | e :: zs, 0, z, d, h, hs => by simp at h; subst h; simp [szs, hs]
 | e :: zs, i + 1, z, d, h, hs => by simp at h; simp [szs, qy7 zs i z d h hs]
theorem qvG : ∀ (zs : List D) (off i : Nat) (z d : D), zs[i]? = some z → sz d = sz z → lay off (zs.set i d) = lay off zs
 | [], _, _, _, _, h, _ => by simp at h
 | e :: zs, off, 0, z, d, h, hs => by simp at h; subst h; simp [lay, hs]
 | e :: zs, off, i + 1, z, d, h, hs => by simp at h; simp [lay, qvG zs _ i z d h hs]
theorem zz.set {p : Addr → Prop} {w : World} : ∀ {zs : List D} {cs : List Value} {i : Nat} {z d : D} {v : Value}, zz p w zs cs → zs[i]? = some z → sz d = sz z → Rep p w d v → zz p w (zs.set i d) (cs.take (szs (zs.take i)) ++ v.cells.toList ++ cs.drop (szs (zs.take i) + sz d))
 | [], _, _, _, _, _, _, h, _, _ => by simp at h
 | e :: zs, cs, 0, z, d, v, hr, h, hs, hv => by
  simp only [zz] at hr
  obtain ⟨u, rest, rfl, h2, h3⟩ := hr
  simp at h
  subst h
  have hu : u.cells.toList.length = sz d := by rw [hs]; simpa using Rep.sz h2
  simp only [vG, szs, vG, jo, ju, jD]
  rw [← hu, List.drop_left]
  exact zz.cons hv h3
 | e :: zs, cs, i + 1, z, d, v, hr, h, hs, hv => by
  simp only [zz] at hr
  obtain ⟨u, rest, rfl, h2, h3⟩ := hr
  simp at h
  have hu : u.cells.toList.length = sz e := by simpa using Rep.sz h2
  have := zz.set h3 h hs hv
  simp only [vq, szs, jC]
  rw [← hu, vb, jJ, va, ji, ji]
  rw [ji] at this
  exact zz.cons h2 this
theorem qxa {p : Addr → Prop} {w : World} (place : Nat → Option (Nat × Nat)) : ∀ {zs zs' : List D} {pd : List (Nat × D)} {pv : List (Nat × Value)} {cs : List Value}, Fill zs pd zs' → zz p w zs cs → (∀ u ∈ cs, u.oneCell' = true) →
 (∀ i z, zs[i]? = some z → place i = some (szs (zs.take i), sz z)) → (∀ i off n, place i = some (off, n) → (lay 0 zs)[i]? = some (off, n)) → pv.map (·.1) = pd.map (·.1) → zH p w (pd.map (·.2)) (pv.map (·.2)) →
 ∃ cs', Instr.fill place cs.toArray pv = some cs'.toArray ∧ zz p w zs' cs' ∧ ∀ u ∈ cs', u.oneCell' = true
 | zs, _, _, pv, cs, .nil _, hr, h1, _, _, hi, _ => by
  simp at hi
  subst hi
  exact ⟨cs, rfl, hr, h1⟩
 | zs, zs', _, pv, cs, .cons (i := i) (z := z) (d := d) (ps := ps) hz hs hp hF, hr, h1, hpl, hpl', hi, hv => by
  cases pv with
  | nil => simp at hi
  | cons x pv =>
   obtain ⟨j, v⟩ := x
   simp only [jm, List.cons.injEq] at hi
   obtain ⟨rfl, hi⟩ := hi
   simp only [jm, zH] at hv
   obtain ⟨v', rest, he, hv1, hv2⟩ := hv
   injection he with he1 he2
   subst he1 he2
   have hvs := Rep.sz hv1
   have hlen := hr.len
   have hle : szs (zs.take j) + sz d ≤ cs.length := by
    rw [hlen, hs]
    have hj := jt.1 hz
    have e1 : zs = zs.take j ++ z :: zs.drop (j + 1) := by
     rw [← hj.2]; simp
    have gen : ∀ (a b : List D), szs (a ++ b) = szs a + szs b := by
     intro a
     induction a with
     | nil => simp [szs]
     | cons x a ih => intro b; simp [szs, ih, jJ]
    rw [e1]
    simp only [gen, szs]
    have : (zs.take j ++ z :: zs.drop (j + 1)).take j = zs.take j := by rw [← e1]
    rw [this]
    omega
   rw [qw4 place cs.toArray j (szs (zs.take j)) v pv (by rw [hvs, hs]; exact hpl j z hz) (by rw [hvs]; simpa using hle)]
   have hset := zz.set hr hz hs hv1
   simp only [hvs]
   have hone : ∀ u ∈ cs.take (szs (zs.take j)) ++ v.cells.toList ++ cs.drop (szs (zs.take j) + sz d), u.oneCell' = true := fun u hu => by
    rcases jl.1 hu with hu | hu
    rcases jl.1 hu with hu | hu
    exact h1 u (vd hu)
    exact Rep.one hv1 hp u hu
    exact h1 u (ve hu)
   refine qxa place hF hset hone (fun i' z' hz' => ?_) (fun i' off n hh => ?_) hi hv2
   have hl := qwO (zs.set j d) 0 i' z' hz'
   rw [qvG zs 0 j z d hz hs] at hl
   have hi' := (jt.1 hz').1
   rw [List.length_set] at hi'
   have hz'' := jq hi'
   have hl2 := qwO zs 0 i' _ hz''
   rw [hl] at hl2
   injection hl2 with hl2
   rw [hpl i' _ hz'']
   simp only [ju] at hl2
   rw [hl2]
   rw [qvG zs 0 j z d hz hs]
   exact hpl' i' off n hh
theorem qu3 {p : Addr → Prop} {w : World} {a : Act} : ∀ {ps : List (Nat × Operand)} {pd : List (Nat × D)}, Pts ρ ps pd → (∀ x ∈ ps.map (·.2), ∀ d, ρ x = some d → Rep p w d (a.eval x)) →
 (ps.map fun x => (x.1, a.eval x.2)).map (·.1) = pd.map (·.1) ∧ zH p w (pd.map (·.2)) ((ps.map fun x => (x.1, a.eval x.2)).map (·.2))
 | _, _, .nil, _ => ⟨rfl, zH.nil _ _⟩
 | _, _, .cons hx hw h, hr => by
  obtain ⟨h1, h2⟩ := qu3 h fun x hm => hr x (by simp only [jm]; exact jf _ hm)
  refine ⟨by simp only [jm, h1], ?_⟩
  simp only [jm]
  exact zH.cons (hw _ _ _ (hr _ og _ hx)) h2
theorem qay {t : TypeId} {parts : Array (Nat × Operand)} {zs zs' : List D} {pd : List (Nat × D)} (ho : o.op = .build t parts) (hB : zQ P t zs) (hp : Pts ρ parts.toList pd) (hF : Fill zs pd zs') : zD P o ρ (.agg zs') := qeF fun p a w h => by
 obtain ⟨hz, it, fields, h1, h2, h3, h4⟩ := hB
 obtain ⟨g1, g2⟩ := qvr p w zs hz
 obtain ⟨q1, q2⟩ := qu3 (p := p) (w := w) (a := a) hp fun x hx => h x (by rw [ho]; simpa [Op.operands] using hx)
 have hplace : ∀ i z, zs[i]? = some z → (lay 0 zs).toArray[i]? = some (szs (zs.take i), sz z) := fun i z hz => by
  have := qwO zs 0 i z hz
  simpa using this
 obtain ⟨cs', r1, r2, r3⟩ := qxa (p := p) (w := w) (fun i => (lay 0 zs).toArray[i]?) hF g1 g2 hplace (fun i off n hh => by simpa using hh) q1 q2
 refine ⟨.agg cs'.toArray, ?_, by simp only [Rep]; exact ⟨cs', rfl, r2, r3⟩⟩
 unfold execOp
 rw [ho]
 have hb : P.built t (parts.map fun (i, x) => (i, a.eval x)).toList = some cs'.toArray := by
  unfold Program.built
  simp only [h1, h3, h2, h4, Value.cells]
  rw [← r1]
  congr 1
  simp
 simp [run_build w t _ _ hb]
end
section
variable {P : Program} {o : Oper} {ρ : Operand → Option D} {d : D}
theorem Inv.fresh {K : Ctx} {p : Addr → Prop} {σ : St} {w : World} (h : Inv K p σ w) (cs : Array Value) (ty : TypeId) :
 ∃ p', Inv K p' σ (w.alloc (.cells cs ty)) ∧ zT p w p' (w.alloc (.cells cs ty)) ∧ RdP p' (w.alloc (.cells cs ty)) (some ⟨w.heap.size, 0, none⟩) cs.toList := by
 have h1 := h.alloc (.cells cs ty)
 have hc : ∀ j u, cs.toList[j]? = some u → (w.alloc (.cells cs ty)).cell? ⟨w.heap.size, 0 + j, none⟩ = some u := fun j u hu => by
  rw [ju, cell_of_row _ _ _ _ _ _ (heap_alloc_new w _)]
  simpa using hu
 refine ⟨_, h1.give (fun a => a.block = w.heap.size ∧ a.spot = none ∧ a.off < cs.size) (fun a ⟨e1, e2, e3⟩ => ?_), (qgy h.pub _).tr (ql1 p _ _), .inr ⟨_, 0, rfl, fun j u hu => ⟨.inr ⟨rfl, rfl, ?_⟩, hc j u hu⟩⟩⟩
 · obtain ⟨b, of, sp⟩ := a
   simp only at e1 e2 e3
   subst e1 e2
   refine ⟨⟨cs[of], ?_⟩, .inl h.size, fun o' ho b hb hab => ?_⟩
   · have := hc of cs[of] og
     simp
   · have := (h.ok o' ho).lt hb
     simp only at hab
     omega
 · have := (jt.1 hu).1
   simp at this ⊢
   exact this
theorem qqy (h : ∀ (p : Addr → Prop) (a : Act) (w : World), (∀ x ∈ o.op.operands, ∀ d, ρ x = some d → Rep p w d (a.eval x)) → ∃ v cs ty, (execOp a.eval o).run P w = .ok (.value v) (w.alloc (.cells cs ty)) ∧ ∀ p' w', zT p w p' w' → RdP p' w' (some ⟨w.heap.size, 0, none⟩) cs.toList → Rep p' w' d v) : zD P o ρ d := fun σ K p a w hi hx => by
 obtain ⟨v, cs, ty, h1, h2⟩ := h p a w hx
 obtain ⟨p', g1, g2, g3⟩ := hi.fresh cs ty
 unfold Oper.wp
 rw [h1]
 exact ⟨v, d, σ, p', rfl, ⟨rfl, rfl⟩, h2 _ _ g2 g3, g1, g2⟩
theorem qcG {e : TypeId} {x : Operand} (ho : o.op = .box e x) (hx : ρ x = some d) (hp : d.plain = true) : zD P o ρ (.ptr d) := qqy fun p a w h => by
 have hv := h x (by rw [ho]; simp [Op.operands]) d hx
 refine ⟨.pointer (some ⟨w.heap.size, 0, none⟩), (a.eval x).cells, e, ?_, fun p' w' g hr => ?_⟩
 unfold execOp
 rw [ho]
 simp [Instr.box, newVar, newRow]
 simp only [Rep]
 exact ⟨_, 0, a.eval x, rfl, hr, hv.grow g, Rep.one hv hp⟩
inductive zar (ρ : Operand → Option D) : List Operand → List D → Prop
 | nil : zar ρ [] []
 | cons {x : Operand} {e d : D} {xs : List Operand} {ds : List D} (hx : ρ x = some e) (hw : Wk e d) (h : zar ρ xs ds) : zar ρ (x :: xs) (d :: ds)
 | consN {xs : List Operand} {ds : List D} (h : zar ρ xs ds) : zar ρ (.const (.slice none 0 0) :: xs) (.own (.slice none 0 0) [] :: ds)
theorem zar.oc {ρ : Operand → Option D} {x : Operand} {xs : List Operand} {d : D} {ds : List D} (h : ρ x = some d) (k : zar ρ xs ds) : zar ρ (x :: xs) (d :: ds) := .cons h (Wk.refl d) k
theorem zar.rep {p : Addr → Prop} {w : World} {a : Act} : ∀ {xs : List Operand} {ds : List D}, zar ρ xs ds → (∀ x ∈ xs, ∀ d, ρ x = some d → Rep p w d (a.eval x)) → zH p w ds (xs.map a.eval)
 | _, _, .nil, _ => zH.nil _ _
 | _, _, .cons hx hw h, hr => by
  simp only [jm]
  exact zH.cons (hw _ _ _ (hr _ (jd ..) _ hx)) (h.rep fun x hm => hr x (jf _ hm))
 | _, _, .consN h, hr => by
  simp only [jm]
  refine zH.cons ?_ (h.rep fun x hm => hr x (jf _ hm))
  simp only [Rep]
  exact ⟨rfl, none, 0, [], rfl, by simp, by omega, .inl rfl, zz.nil _ _, by simp⟩
theorem zH.reps {p : Addr → Prop} {w : World} : ∀ {ds : List D} {vs : List Value}, zH p w ds vs → zz p w ds (vs.flatMap fun v => v.cells.toList)
 | [], _, h => by simp only [zH] at h; subst h; exact zz.nil _ _
 | d :: ds, _, h => by
  simp only [zH] at h
  obtain ⟨v, rest, rfl, h1, h2⟩ := h
  simp only [vn]
  exact zz.cons h1 (zH.reps h2)
theorem zH.ones {p : Addr → Prop} {w : World} : ∀ {ds : List D} {vs : List Value}, zH p w ds vs → (∀ d ∈ ds, d.plain = true) → ∀ u ∈ vs.flatMap (fun v => v.cells.toList), u.oneCell' = true
 | [], _, h, _ => by simp only [zH] at h; subst h; simp
 | d :: ds, _, h, hp => by
  simp only [zH] at h
  obtain ⟨v, rest, rfl, h1, h2⟩ := h
  intro u hu
  simp only [vn] at hu
  rcases jl.1 hu with hu | hu
  exact Rep.one h1 (hp d (jd ..)) u hu
  exact zH.ones h2 (fun e he => hp e (jf _ he)) u hu
theorem zH.len {p : Addr → Prop} {w : World} : ∀ {ds : List D} {vs : List Value}, zH p w ds vs → vs.length = ds.length
 | [], _, h => by simp only [zH] at h; subst h; rfl
 | d :: ds, _, h => by
  simp only [zH] at h
  obtain ⟨v, rest, rfl, h1, h2⟩ := h
  simp [zH.len h2]
theorem zH.szs {p : Addr → Prop} {w : World} {s : Nat} : ∀ {ds : List D} {vs : List Value}, zH p w ds vs → zJ s ds → ∀ v ∈ vs, v.cells.size = s
 | [], _, h, _ => by simp only [zH] at h; subst h; simp
 | d :: ds, _, h, hs => by
  simp only [zH] at h
  obtain ⟨v, rest, rfl, h1, h2⟩ := h
  intro u hu
  rcases jh.1 hu with rfl | hu
  rw [Rep.sz h1]; exact hs d (jd ..)
  exact zH.szs h2 (fun e he => hs e (jf _ he)) u hu
theorem qtB (s : Nat) : ∀ (vs : List Value) (k : Nat) (pre junk : List Value), (∀ v ∈ vs, v.cells.size = s) → pre.length = k * s → junk.length = vs.length * s →
 Instr.fill (fun i => some (i * s, s)) (pre ++ junk).toArray ((vs.zipIdx k).map fun x => (x.2, x.1)) = some (pre ++ vs.flatMap (fun v => v.cells.toList)).toArray
 | [], k, pre, junk, _, _, hj => by
  have : junk = [] := jA (by simpa using hj)
  subst this
  simp [Instr.fill]
 | v :: vs, k, pre, junk, hs, hp, hj => by
  have hv := hs v (jd ..)
  simp only [jg, jy, jU] at hj
  simp only [List.zipIdx_cons, jm, vn]
  rw [qw4 _ _ k (k * s) v _ (by rw [hv]) oe]
  have e1 : (pre ++ junk).toArray.toList.take (k * s) = pre := by simp [← hp]
  have e2 : (pre ++ junk).toArray.toList.drop (k * s + v.cells.size) = junk.drop s := by
   rw [hv, ← hp]
   simp [va]
  rw [e1, e2]
  have := qtB s vs (k + 1) (pre ++ v.cells.toList) (junk.drop s) (fun u hu => hs u (jf _ hu)) (by simp [hp, hv, jy]) oe
  rw [this, ji]
theorem qEU {t e : TypeId} {n s : Nat} {parts : Array (Nat × Operand)} {xs : List Operand} {ds : List D} {z : Value} (ho : o.op = .buildSlice t n parts) (hu : P.underlying t = some (.slice e)) (hz : (P.info? e).map (fun i => (i.zero, i.size)) = some (some z, s)) (hs0 : 0 < s) (hps : parts.toList = (xs.zipIdx 0).map fun x => (x.2, x.1)) (hn : n = xs.length) (hn0 : 0 < n) (hsm : n * s ≤ 16777216) (hO : zar ρ xs ds) (hsz : zJ s ds) (hpl : ∀ d ∈ ds, d.plain = true) : zD P o ρ (.full ds) := qqy fun p a w h => by
 have hmem : ∀ x ∈ xs, x ∈ o.op.operands := fun x hx => by
  rw [ho]
  simp only [Op.operands, List.mem_toArray, hps, jI, jx, Function.comp]
  obtain ⟨i, hi⟩ := List.mem_iff_getElem?.1 hx
  exact ⟨(x, i), by rw [List.mem_zipIdx_iff_getElem?]; simpa using hi, rfl⟩
 have hr := hO.rep (p := p) (w := w) (a := a) fun x hx => h x (hmem x hx)
 have hl := hr.len
 have hlx : ds.length = n := by rw [← hl, jb, hn]
 obtain ⟨i, hi, hzz⟩ := jQ.1 hz
 simp only [Prod.mk.injEq] at hzz
 refine ⟨.slice (some ⟨w.heap.size, 0, none⟩) n n, ((xs.map a.eval).flatMap fun v => v.cells.toList).toArray, e, ?_, fun p' w' g hrd => ?_⟩
 unfold execOp
 rw [ho]
 have hpos : ¬ n * i.size = 0 := by
  rw [hzz.2]
  have := vw hn0 hs0
  omega
 have hf : Instr.fill (fun j => some (j * i.size, i.size)) ((Array.range (n * i.size)).map (z.cells[· % z.cells.size]!)) ((parts.map fun (j, x) => (j, a.eval x)).toList) = some ((xs.map a.eval).flatMap fun v => v.cells.toList).toArray := by
  have e1 : (parts.map fun (j, x) => (j, a.eval x)).toList = ((xs.map a.eval).zipIdx 0).map fun x => (x.2, x.1) := by
   rw [Array.toList_map, hps, List.zipIdx_map, jI, jI]
   rfl
  rw [e1, hzz.2]
  have := qtB s (xs.map a.eval) 0 [] ((Array.range (n * s)).map (z.cells[· % z.cells.size]!)).toList (hr.szs hsz) og (by simp [hn])
  have e3 : ((Array.range (n * s)).map (z.cells[· % z.cells.size]!)).toList.toArray = (Array.range (n * s)).map (z.cells[· % z.cells.size]!) := by rw [Array.toArray_toList]
  rw [jo, jo, e3] at this
  exact this
 simp [run_buildSlice w t e n _ _ i z hu hi hzz.1 (by rw [hzz.2]; omega) hpos hf]
 simp only [Rep]
 refine ⟨some ⟨w.heap.size, 0, none⟩, _, by rw [hlx], ?_, hrd, ?_, ?_⟩
 rw [hlx]
 have : n * 1 ≤ n * s := vA n hs0
 omega
 simpa using (hr.reps).grow g
 simpa using hr.ones hpl
theorem qDX {t e : TypeId} {parts : Array (Nat × Operand)} {s : Nat} (ho : o.op = .buildSlice t 0 parts) (hu : P.underlying t = some (.slice e)) (hz : (P.info? e).map (·.size) = some s) (hps : parts.toList = []) : zD P o ρ (.full []) := qqy fun p a w h => by
 obtain ⟨i, hi, hzz⟩ := jQ.1 hz
 refine ⟨.slice (some ⟨w.heap.size, 0, none⟩) 0 0, #[], e, ?_, fun p' w' g hrd => ?_⟩
 unfold execOp
 rw [ho]
 have : parts = #[] := j3.1 (by simpa using hps)
 subst this
 have e0 : Array.range 0 = #[] := rfl
 simp [Instr.buildSlice, run_underlying hu, sizeOf, typeInfo, hi, Instr.fill, newRow, e0]
 simp only [Rep]
 exact ⟨_, [], rfl, by simp, .inl rfl, zz.nil _ _, by simp⟩
/-! ### parts of lists -/
theorem qCR {p : Addr → Prop} {w : World} {A : Option Addr} {c s lo hi : Nat} {l : List D} {xs : List Value} (h4 : RdP p w A xs) (h5 : zz p w l xs) (h6 : ∀ u ∈ xs, u.oneCell' = true) (hall : zJ s l) (hlo : lo ≤ hi) (hhi : hi ≤ l.length) (hc : l.length ≤ c) :
 ∃ ys, RdP p w (if c = lo then A else A.map (·.add (lo * s))) ys ∧ zz p w ((l.take hi).drop lo) ys ∧ ∀ u ∈ ys, u.oneCell' = true := by
 by_cases he : c = lo
 · refine ⟨[], .inl rfl, ?_, by simp⟩
   have : (l.take hi).drop lo = [] := j9 oe
   rw [this]
   exact zz.nil _ _
 · rw [if_neg he]
   have h7 := (h5.take hi).drop lo
   have e1 : szs (l.take hi) = hi * s := by rw [(hall.take hi).szs, vB, Nat.min_eq_left hhi]
   have e2 : szs ((l.take hi).take lo) = lo * s := by rw [((hall.take hi).take lo).szs, vB, vB, Nat.min_eq_left hhi, Nat.min_eq_left hlo]
   rw [e1, e2] at h7
   refine ⟨_, ?_, h7, fun u hu => h6 u (vd (ve hu))⟩
   rcases h4 with h4 | ⟨b, o', rfl, hcell⟩
   · subst h4; exact .inl og
   · refine .inr ⟨b, o' + lo * s, by simp [zbk], fun j u hu => ?_⟩
     rw [List.getElem?_drop, j8] at hu
     split at hu
     · have := hcell _ u hu
       rw [← jJ] at this
       exact this
     · cases hu
def zaV (ρ : Operand → Option D) : Option Operand → Nat → Prop
 | none, n => n = 0
 | some x, n => ∃ k m, ρ x = some (.int k m) ∧ m = (n : Int)
def zaS (ρ : Operand → Option D) (len : Nat) : Option Operand → Nat → Prop
 | none, n => n = len
 | some x, n => ∃ k m, ρ x = some (.int k m) ∧ m = (n : Int)
theorem qEW {t e : TypeId} {x : Operand} {low high : Option Operand} {s lo hi : Nat} {dx : D} {l : List D} (ho : o.op = .slice t x low high none) (hu : P.underlying t = some (.slice e)) (hs : (P.info? e).map (·.size) = some s) (hx : ρ x = some dx) (hl : AsL dx l) (h1 : zaV ρ low lo) (h2 : zaS ρ l.length high hi) (hlo : lo ≤ hi) (hhi : hi ≤ l.length) (hall : zJ s l) : zD P o ρ (.lst ((l.take hi).drop lo)) := qeF fun p a w h => by
 obtain ⟨A, c, xs, g1, g2, g3, g4, g5, g6⟩ := hl.rep (h x (by rw [ho]; simp [Op.operands]) _ hx)
 obtain ⟨ys, q1, q2, q3⟩ := qCR g4 g5 g6 hall hlo hhi g2
 obtain ⟨i, hi', hin⟩ := jQ.1 hs
 have hlen : ((l.take hi).drop lo).length = hi - lo := by simp; omega
 refine ⟨.slice (if c = lo then A else A.map (·.add (lo * s))) (hi - lo) (c - lo), ?_, ?_⟩
 unfold execOp
 rw [ho]
 have hiC : ((hi : Int) ≤ (c : Int)) := by omega
 have hloC : ((lo : Int) ≤ (hi : Int)) := by omega
 have hbl : ∀ v, low.map a.eval = v → (match v with | some v => Instr.sliceBound v hi .sliceB | none => pure 0 : Sem Nat).run P w = .ok lo w := by
  intro v hv
  cases low with
  | none => simp [zaV] at h1; subst hv h1; simp
  | some y =>
   obtain ⟨k, m, h3, rfl⟩ := h1
   have := h y (by rw [ho]; simp [Op.operands]) _ h3
   simp only [Rep] at this
   subst hv
   simp [this.1, Instr.sliceBound, asIntOf, hlo]
 have hbh : ∀ v, high.map a.eval = v → (match v with | some v => Instr.sliceBound v c .sliceAcap | none => pure l.length : Sem Nat).run P w = .ok hi w := by
  intro v hv
  cases high with
  | none => simp [zaS] at h2; subst hv h2; simp
  | some y =>
   obtain ⟨k, m, h3, rfl⟩ := h2
   have := h y (by rw [ho]; simp [Op.operands]) _ h3
   simp only [Rep] at this
   subst hv
   have : hi ≤ c := by omega
   simp [*, Instr.sliceBound, asIntOf]
 have hb : (Instr.sliceBounds true l.length c (low.map a.eval) (high.map a.eval) none).run P w = .ok (lo, hi, c) w := by
  have e1 := hbl _ rfl
  have e2 := hbh _ rfl
  unfold Instr.sliceBounds
  cases hL : low.map a.eval <;> cases hH : high.map a.eval <;> simp only [hL, hH] at e1 e2 ⊢ <;> simp_all
 simp [g1, Instr.sliceAt, Instr.slice, run_underlying hu, hb, sizeOf, typeInfo, hi', hin]
 simp only [Rep]
 exact ⟨_, c - lo, ys, by rw [hlen], by rw [hlen]; omega, by omega, q1, q2, q3⟩
/-! ### calls -/
def callee (P : Program) (f : FuncId) : Prop := ∃ fn c, P.funcs[f]? = some fn ∧ fn.body = some c ∧ (fn.name == "runtime.NumGoroutine") = false
theorem qpg {f : FuncId} (h : callee P f) (vs : Array Value) (w : World) : (callFunc f vs).run P w = .ok (.enter f vs) w := by
 obtain ⟨fn, c, h1, h2, h3⟩ := h
 simp only [callFunc, Sem.run_bind, run_program, Result.andThen_ok, h1]
 simp [h3, h2]
theorem qzZ {K : Ctx} {p : Addr → Prop} {σ σ1 τ : St} {w : World} {a : Act} {dst : Option Tmp} {R : D → St → Prop} (hi : Inv K p σ w) (hσ : σ.Perm (σ1 ++ τ)) {e : Ending} {w' : World} (h : Left (ctx w p σ1) R e w') :
 ∃ v, e = .returned v ∧ ∃ v' d σ' p', a.put dst v = a.put dst v' ∧ (∃ σ1', R d σ1' ∧ σ' = σ1' ++ τ) ∧ Rep p' w' d v' ∧ Inv K p' σ' w' ∧ zT p w p' w' := by
 obtain ⟨v, d, σ1', p', rfl, hR, hv, hi'⟩ := h.resolve_right fun ⟨_, _, _, _, _, h, _⟩ => h
 exact ⟨v, rfl, v, d, _, p', rfl, ⟨σ1', hR, rfl⟩, hv, (hi.perm hσ).leave hi', hi'.gr⟩
theorem qup {f : FuncId} {vs : List Value} {σ σ1 τ : St} {ds : List D} {R : D → St → Prop} {K : Ctx} {p : Addr → Prop} {a : Act} {w : World} (hi : Inv K p σ w) (hσ : σ.Perm (σ1 ++ τ)) (hS : Spec P f ds σ1 R) (hv : zH p w ds vs) (hrun : (execOp a.eval o).run P w = .ok (.enter f vs.toArray) w) :
 o.wp P a w (fun a' w' => ∃ v d σ' p', a' = a.put o.dst v ∧ (∃ σ1', R d σ1' ∧ σ' = σ1' ++ τ) ∧ Rep p' w' d v ∧ Inv K p' σ' w' ∧ zT p w p' w') (fun _ _ _ => False) := by
 unfold Oper.wp
 rw [hrun]
 refine (hS w p vs ((hi.perm hσ).enter) hv).mono fun e w' hl => ?_
 obtain ⟨v, rfl, v', d, σ', p', h1, h2, h3, h4, h5⟩ := qzZ (a := a) (dst := o.dst) hi hσ hl
 exact ⟨v', d, σ', p', h1, h2, h3, h4, h5⟩
theorem qiP {f : FuncId} {args : Array Operand} {ats : Array TypeId} {σ σ1 : St} (τ : St) {ds : List D} {R : D → St → Prop} (ho : o.op = .call { callee := .value (.func f), args := args, argTypes := ats }) (hf : callee P f) (hO : zar ρ args.toList ds) (hσ : σ.Perm (σ1 ++ τ)) (hS : Spec P f ds σ1 R) : zC P o ρ σ fun d σ' => ∃ σ1', R d σ1' ∧ σ' = σ1' ++ τ := fun K p a w hi h => by
 have hv := hO.rep (p := p) (w := w) (a := a) fun x hx => h x (by rw [ho]; simp only [Op.operands, Call.operands]; exact v7.2 (.inr (by simpa using hx)))
 refine qup hi hσ hS hv ?_
 unfold execOp
 rw [ho]
 simp only [resolve, Act.eval, Deferred.ofValue, Sem.run_bind, Sem.run_pure, Result.andThen_ok, invoke]
 rw [qpg hf]
 congr 2
 apply j3.1
 simp
theorem qhg {f : FuncId} {args : Array Operand} {ats : Array TypeId} {ds : List D} (ho : o.op = .call { callee := .value (.func f), args := args, argTypes := ats }) (hf : callee P f) (hO : zar ρ args.toList ds) (hS : zf P f ds d) : zD P o ρ d := fun σ K p a w hi h => by
 have := qiP (P := P) (σ := σ) (σ1 := []) σ ho hf hO (List.Perm.refl _) hS K p a w hi h
 refine Oper.wp_mono (fun a' w' hh => ?_) this
 obtain ⟨v, d', σ', p', h1, ⟨σ1', rfl, rfl⟩, h3, h4, h5⟩ := hh
 exact ⟨v, _, _, p', h1, ⟨rfl, rfl⟩, h3, (h4.perm List.perm_append_comm).less, h5⟩
theorem qqk {f : FuncId} {x : Operand} {args : Array Operand} {ats : Array TypeId} {σ σ1 : St} (τ : St) {ds fs cs all : List D} {R : D → St → Prop} (ho : o.op = .call { callee := .value x, args := args, argTypes := ats }) (hx : ρ x = some (.clo (.func f) fs cs)) (hf : callee P f) (hO : zar ρ args.toList ds) (hall : fs ++ ds ++ cs = all) (hσ : σ.Perm (σ1 ++ τ)) (hS : Spec P f all σ1 R) : zC P o ρ σ fun d σ' => ∃ σ1', R d σ1' ∧ σ' = σ1' ++ τ := fun K p a w hi h => by
 have hv := hO.rep (p := p) (w := w) (a := a) fun y hy => h y (by rw [ho]; simp only [Op.operands, Call.operands]; exact v7.2 (.inr (by simpa using hy)))
 have h1 := h x (by rw [ho]; simp [Op.operands, Call.operands]) _ hx
 simp only [Rep] at h1
 obtain ⟨fv, cv, h1, h2, h3⟩ := h1
 have hv' : zH p w all (fv ++ args.toList.map a.eval ++ cv) := by rw [← hall]; exact (h2.app hv).app h3
 refine qup hi hσ hS hv' ?_
 unfold execOp
 rw [ho]
 simp only [resolve, h1, Deferred.ofValue, Sem.run_bind, Sem.run_pure, Result.andThen_ok, invoke]
 rw [qpg hf]
 congr 2
 apply j3.1
 simp
theorem qpF {f : FuncId} {x : Operand} {args : Array Operand} {ats : Array TypeId} {ds fs cs all : List D} (ho : o.op = .call { callee := .value x, args := args, argTypes := ats }) (hx : ρ x = some (.clo (.func f) fs cs)) (hf : callee P f) (hO : zar ρ args.toList ds) (hall : fs ++ ds ++ cs = all) (hS : zf P f all d) : zD P o ρ d := fun σ K p a w hi h => by
 have := qqk (P := P) (σ := σ) (σ1 := []) σ ho hx hf hO hall (List.Perm.refl _) hS K p a w hi h
 refine Oper.wp_mono (fun a' w' hh => ?_) this
 obtain ⟨v, d', σ', p', h1, ⟨σ1', rfl, rfl⟩, h3, h4, h5⟩ := hh
 exact ⟨v, _, _, p', h1, ⟨rfl, rfl⟩, h3, (h4.perm List.perm_append_comm).less, h5⟩
end
section
variable {P : Program} {o : Oper} {ρ : Operand → Option D} {d : D}
def yX : D → List Nat → Option D
 | d, [] => some d
 | .agg l, f :: fs => match l[f]? with
  | some e => yX e fs
  | none => none
 | _, _ => none
def yt : D → List Nat → Nat
 | _, [] => 0
 | .agg l, f :: fs => szs (l.take f) + (match l[f]? with | some e => yt e fs | none => 0)
 | _, _ => 0
def zaP : D → List Nat → D → D
 | _, [], x => x
 | .agg l, f :: fs, x => match l[f]? with
  | some e => .agg (l.set f (zaP e fs x))
  | none => .agg l
 | d, _, _ => d
theorem qkO {p : Addr → Prop} {w : World} : ∀ {path : List Nat} {d0 d : D} {v0 : Value}, Rep p w d0 v0 → yX d0 path = some d → ∃ v, Rep p w d v ∧ ∀ j u, v.cells.toList[j]? = some u → v0.cells.toList[yt d0 path + j]? = some u
 | [], d0, d, v0, h, hs => by
  simp only [yX, Option.some.injEq] at hs
  subst hs
  exact ⟨v0, h, fun j u hu => by simpa [yt] using hu⟩
 | f :: fs, d0, d, v0, h, hs => by
  cases d0 <;> simp only [yX, reduceCtorEq] at hs
  rename_i l
  cases hl : l[f]? with
  | none => simp [hl] at hs
  | some e =>
   simp only [hl] at hs
   simp only [Rep] at h
   obtain ⟨cs, rfl, h2, h3⟩ := h
   obtain ⟨v1, hv1, hc1⟩ := h2.at_cell hl
   obtain ⟨v, hv, hc⟩ := qkO hv1 hs
   refine ⟨v, hv, fun j u hu => ?_⟩
   have := hc1 _ u (hc j u hu)
   simp only [yt, hl, Value.cells, jJ]
   exact this
theorem qp0 : ∀ (l : List D) (f : Nat) (e : D), l[f]? = some e → szs (l.take f) + sz e ≤ szs l
 | [], _, _, h => by simp at h
 | x :: l, 0, e, h => by simp at h; subst h; simp [szs]
 | x :: l, f + 1, e, h => by simp at h; have := qp0 l f e h; simp [szs]; omega
theorem qpK {p : Addr → Prop} {w : World} : ∀ {path : List Nat} {d0 d d' : D} {v0 v : Value}, Rep p w d0 v0 → yX d0 path = some d → sz d' = sz d → Rep p w d' v → (d'.plain = true) → d0.plain = true →
 ∃ v', Rep p w (zaP d0 path d') v' ∧ (zaP d0 path d').plain = true ∧ v'.cells.toList = v0.cells.toList.take (yt d0 path) ++ v.cells.toList ++ v0.cells.toList.drop (yt d0 path + sz d') ∧ yt d0 path + sz d' ≤ sz d0 ∧ sz (zaP d0 path d') = sz d0
 | [], d0, d, d', v0, v, h, hs, hz, hv, hp, hp0 => by
  simp only [yX, Option.some.injEq] at hs
  subst hs
  refine ⟨v, by simpa only [zaP] using hv, by simpa only [zaP] using hp, ?_, by simp [yt, hz], by simpa only [zaP] using hz⟩
  have := Rep.sz h
  have hl : v0.cells.toList.length = sz d' := by rw [hz]; simpa using this
  simp only [yt, vG, jo, ju]
  rw [Ja oa]
  simp
 | f :: fs, d0, d, d', v0, v, h, hs, hz, hv, hp, hp0 => by
  cases d0 <;> simp only [yX, reduceCtorEq] at hs
  rename_i l
  cases hl : l[f]? with
  | none => simp [hl] at hs
  | some e =>
   simp only [hl] at hs
   simp only [Rep] at h
   obtain ⟨cs, rfl, h2, h3⟩ := h
   obtain ⟨v1, hv1, hsplit, hlen1⟩ := h2.at_ hl
   have hpe : e.plain = true := by
    cases e <;> first | rfl | skip
    simp only [Rep] at hv1
    obtain ⟨vs, rfl, _⟩ := hv1
    have := h3 (.tuple vs.toArray) (by rw [hsplit]; simp [Value.cells])
    cases this
    simp only [Rep] at hv1
    subst hv1
    have := h3 Go.undef (by rw [hsplit]; simp [Value.cells, Go.undef])
    cases this
   obtain ⟨v', q1, q2, q3, q4, q5⟩ := qpK hv1 hs hz hv hp hpe
   have hset := zz.set h2 hl q5 q1
   have hv1l : v1.cells.toList.length = sz e := by simpa using Rep.sz hv1
   have key : cs.take (szs (l.take f)) ++ v'.cells.toList ++ cs.drop (szs (l.take f) + sz e) = cs.take (yt (.agg l) (f :: fs)) ++ v.cells.toList ++ cs.drop (yt (.agg l) (f :: fs) + sz d') := by
    simp only [yt, hl]
    generalize hA : cs.take (szs (l.take f)) = A at hsplit hlen1 ⊢
    generalize hB : cs.drop (szs (l.take f) + sz e) = B at hsplit ⊢
    rw [q3]
    have hAl : A.length = szs (l.take f) := hlen1
    have e1 : cs.take (szs (l.take f) + yt e fs) = A ++ v1.cells.toList.take (yt e fs) := by
     rw [hsplit, ← hAl, ji, vb, Jj oa]
    have e2 : cs.drop (szs (l.take f) + yt e fs + sz d') = v1.cells.toList.drop (yt e fs + sz d') ++ B := by
     rw [hsplit, ← hAl, ji, jJ, va, Jk oa]
    rw [e1, e2]
    simp only [ji]
   refine ⟨.agg (cs.take (szs (l.take f)) ++ v'.cells.toList ++ cs.drop (szs (l.take f) + sz e)).toArray, ?_, ?_, ?_, ?_, ?_⟩
   simp only [zaP, hl, Rep]
   refine ⟨_, rfl, ?_, fun u hu => ?_⟩
   rw [← q5]; exact hset
   rcases jl.1 hu with hu | hu
   rcases jl.1 hu with hu | hu
   exact h3 u (vd hu)
   exact Rep.one q1 q2 u hu
   exact h3 u (ve hu)
   simp only [zaP, hl]; rfl
   exact key
   have := qp0 l f e hl
   simp only [yt, hl, sz]
   omega
   simp only [zaP, hl, sz]
   exact qy7 l f e _ hl q5
theorem qAt {t : TypeId} {x : Operand} {n b off : Nat} {path : List Nat} {σ : St} {d0 : D} (ho : o.op = .load t x) (hx : ρ x = some (.ref b off path)) (hσ : .cell b d0 ∈ σ) (hs : yX d0 path = some d) (hoff : yt d0 path = off) (ht : Ty P t d.isAgg n) (hn : sz d = n) : zC P o ρ σ fun d' σ' => d' = d ∧ σ' = σ := fun K p a w hi h => by
 have h1 := h x (by rw [ho]; simp [Op.operands]) _ hx
 simp only [Rep] at h1
 obtain ⟨v0, ty, g1, g2, g3, g4⟩ := hi.ok _ hσ
 obtain ⟨v, hv, hc⟩ := qkO g1 hs
 have hl := qjj (P := P) (b := b) (o := off) ht hn hv (fun j y hy => by
  rw [cell_of_row _ _ _ _ _ _ g3, ← hoff]
  simpa using hc j y hy)
 have hr : (execOp a.eval o).run P w = .ok (.value v) w := by
  unfold execOp
  rw [ho]
  simp [h1, Instr.loadAt, Instr.sureAddr, hl]
 unfold Oper.wp
 rw [hr]
 exact ⟨v, d, σ, p, rfl, ⟨rfl, rfl⟩, hv, hi, zT.refl p w⟩
theorem qDu {t : TypeId} {x y : Operand} {n b off : Nat} {path : List Nat} {σ τ : St} {d0 dOld e : D} (ho : o.op = .store t x y) (hx : ρ x = some (.ref b off path)) (hy : ρ y = some e) (hw : Wk e d) (hσ : σ.Perm (.cell b d0 :: τ)) (hs : yX d0 path = some dOld) (hoff : yt d0 path = off) (ht : (P.info? t).map (·.size) = some n) (hn : sz d = n) (hn' : sz dOld = n) (hp : d.plain = true) : zC P o ρ σ fun _ σ' => σ' = .cell b (zaP d0 path d) :: τ := fun K p a w hi h => by
 have h1 := h x (by rw [ho]; simp [Op.operands]) _ hx
 simp only [Rep] at h1
 have h2 := hw _ _ _ (h y (by rw [ho]; simp [Op.operands]) _ hy)
 have hi' := hi.perm hσ
 obtain ⟨v0, ty, g1, g2, g3, g4⟩ := hi'.ok _ (jd ..)
 obtain ⟨i, hii, hin⟩ := jQ.1 ht
 have hsz : (a.eval y).cells.size = n := by rw [Rep.sz h2, hn]
 have hbl : b < w.heap.size := (jE.1 g3).1
 obtain ⟨v', q1, q2, q3, q4, q5⟩ := qpK g1 hs (by rw [hn, hn']) h2 hp g2
 have hst := run_storeCells_at (P := P) b off ty (a.eval y).cells.toList 0 v0.cells w g3 (by
  have := Rep.sz g1
  simp only [jW, hsz, j4]
  omega) (Rep.one h2 hp)
 have hrow : (v0.cells.toList.take (off + 0) ++ (a.eval y).cells.toList ++ v0.cells.toList.drop (off + 0 + (a.eval y).cells.toList.length)).toArray = v'.cells := by
  apply j3.1
  simp only [j4, jW, hsz, ← hn]
  rw [q3, hoff]
 rw [hrow] at hst
 have hr : (execOp a.eval o).run P w = .ok .skip (w.setRow b v'.cells) := by
  unfold execOp
  rw [ho]
  simp [h1, Instr.storeAt, Instr.sureAddr, storeVar, sizeOf, typeInfo, hii, hsz, hin, hst]
 have hcell : ∀ a', p a' → (w.setRow b v'.cells).cell? a' = w.cell? a' := fun a' ha => qju (setRow_other w b _ _ (g4 a' ha))
 have gr : zT p w p (w.setRow b v'.cells) := fun a' ha => ⟨ha, hcell a' ha⟩
 unfold Oper.wp
 rw [hr]
 refine ⟨Go.undef, .undef, _, p, rfl, rfl, by simp only [Rep], ?_, gr⟩
 refine hi'.write (b := b) rfl rfl gr (fun a' ha => .inl ha) ⟨v', ty, q1.grow gr, q2, setRow_heap w b _ _ _ _ g3, g4⟩ (fun a' ha => ?_) rfl rfl rfl og fun k hk => setRow_other w b k _ hk
 obtain ⟨u, hu⟩ := hi.pub a' ha
 exact ⟨u, by rw [hcell a' ha]; exact hu⟩
def ym (P : Program) (e : TypeId) (z : D) : Prop := zok z = true ∧ ∃ v, (P.info? e).map (·.zero) = some (some v) ∧ v.cells.toList = zc z
theorem qAN {z : D} (h : zok z = true) : z.plain = true := by cases z <;> first | rfl | (simp [zok] at h)
theorem ym.rep {e : TypeId} {z : D} (h : ym P e z) (p : Addr → Prop) (w : World) : ∃ v v', (P.info? e).map (·.zero) = some (some v) ∧ Rep p w z v' ∧ v'.cells = v.cells ∧ z.plain = true := by
 obtain ⟨h1, v, h2, h3⟩ := h
 obtain ⟨v', h4, h5, _⟩ := qCf p w z h1
 exact ⟨v, v', h2, h4, j3.1 (by rw [h5, h3]), qAN h1⟩
theorem qau {e : TypeId} {z : D} {σ : St} (ho : o.op = .alloc e) (hz : ym P e z) : zC P o ρ σ fun d' σ' => ∃ b, d' = .ref b 0 [] ∧ σ' = .cell b z :: σ := fun K p a w hi h => by
 obtain ⟨v, v', h1, h2, h3, h4⟩ := hz.rep p w
 obtain ⟨i, hii, hin⟩ := jQ.1 h1
 have hr : (execOp a.eval o).run P w = .ok (.value (.pointer (some ⟨w.heap.size, 0, none⟩))) (w.alloc (.cells v.cells e)) := by
  unfold execOp
  rw [ho]
  simp [Instr.alloc, zeroValue, typeInfo, hii, hin, newVar, newRow]
 unfold Oper.wp
 rw [hr]
 refine ⟨_, .ref w.heap.size 0 [], _, p, rfl, ⟨w.heap.size, rfl, rfl⟩, by simp only [Rep], ?_, qgy hi.pub _⟩
 refine (hi.alloc _).more ⟨v', e, h2.grow (qgy hi.pub _), h4, by rw [h3]; exact heap_alloc_new w _, fun a' ha hb => ?_⟩ fun b hb => ?_
 obtain ⟨u, hu⟩ := hi.pub a' ha
 have := qoW hu
 omega
 simp only [Ob.blk, Option.some.injEq] at hb
 subst hb
 exact ⟨.inl hi.size, fun hm => by have := hi.lt hm; omega⟩
theorem ql8 {e : TypeId} {x : Operand} {σ : St} (ho : o.op = .box e x) (hx : ρ x = some d) (hp : d.plain = true) : zC P o ρ σ fun d' σ' => ∃ b, d' = .ref b 0 [] ∧ σ' = .cell b d :: σ := fun K p a w hi h => by
 have hv := h x (by rw [ho]; simp [Op.operands]) d hx
 have hr : (execOp a.eval o).run P w = .ok (.value (.pointer (some ⟨w.heap.size, 0, none⟩))) (w.alloc (.cells (a.eval x).cells e)) := by
  unfold execOp
  rw [ho]
  simp [Instr.box, newVar, newRow]
 unfold Oper.wp
 rw [hr]
 refine ⟨_, .ref w.heap.size 0 [], _, p, rfl, ⟨w.heap.size, rfl, rfl⟩, by simp only [Rep], ?_, qgy hi.pub _⟩
 refine (hi.alloc _).more ⟨a.eval x, e, hv.grow (qgy hi.pub _), hp, heap_alloc_new w _, fun a' ha hb => ?_⟩ fun b hb => ?_
 obtain ⟨u, hu⟩ := hi.pub a' ha
 have := qoW hu
 omega
 simp only [Ob.blk, Option.some.injEq] at hb
 subst hb
 exact ⟨.inl hi.size, fun hm => by have := hi.lt hm; omega⟩
theorem qbb {m : Md} {f : FuncId} {fn : Func} {K : Ctx} {R : D → St → Prop} {k : List Item} {env : Env} {σ τ : St} (s b : Nat) (hs : lk env s = some (.ref b 0 [])) (hσ : σ.Perm (.cell b d :: τ)) (h : zk m P f fn K R k ((s, .ptr d) :: env) τ) : zk m P f fn K R k env σ := fun p a w hi hr hn hd => by
 have hi' := hi.perm hσ
 obtain ⟨v0, ty, g1, g2, g3, g4⟩ := hi'.ok _ (jd ..)
 have hbl : b < w.heap.size := (jE.1 g3).1
 have hm := hi'.mine b (qhG.2 ⟨_, jd .., rfl⟩)
 have hnd := hi'.nd
 have hne : b ∉ yR τ := by
  simp only [yR, j6, Ob.blk, jP] at hnd
  exact hnd.1
 have hcell : ∀ j u, v0.cells.toList[j]? = some u → w.cell? ⟨b, 0 + j, none⟩ = some u := fun j u hu => by
  rw [ju, cell_of_row _ _ _ _ _ _ g3]
  simpa using hu
 have hg := hi'.tail.give (fun a' => a'.block = b ∧ a'.spot = none ∧ a'.off < v0.cells.size) fun a' ⟨e1, e2, e3⟩ => by
  obtain ⟨b', of, sp⟩ := a'
  simp only at e1 e2 e3
  subst e1 e2
  refine ⟨⟨v0.cells[of], ?_⟩, hm, fun o' ho b' hb hab => ?_⟩
  have := hcell of v0.cells[of] og
  simpa using this
  simp only at hab
  subst hab
  exact absurd (qhG.2 ⟨o', ho, hb⟩) hne
 refine h _ a w hg ?_ hn hd
 intro t e ht
 rw [qiY] at ht
 by_cases hst : s = t
 subst hst
 rw [if_pos rfl] at ht
 injection ht with ht
 subst ht
 have := hr s _ hs
 simp only [Rep] at this ⊢
 rw [this]
 refine ⟨b, 0, v0, rfl, .inr ⟨b, 0, rfl, fun j u hu => ⟨.inr ⟨rfl, rfl, ?_⟩, hcell j u hu⟩⟩, g1.grow (ql1 p _ w), Rep.one g1 g2⟩
 have := (jt.1 hu).1
 simp at this ⊢
 omega
 rw [if_neg hst] at ht
 exact (hr t e ht).grow (ql1 p _ w)
end
section
variable {P : Program} {o : Oper} {ρ : Operand → Option D} {d : D}
theorem RdP.rd {p : Addr → Prop} {w : World} {A : Option Addr} {xs : List Value} (h : RdP p w A xs) : Rd w A xs := by
 rcases h with h | ⟨b, o, h1, h2⟩
 exact .inl h
 exact .inr ⟨_, h1, fun j u hu => by rw [zbk]; exact (h2 j u hu).2⟩
def elB (P : Program) (e : TypeId) (s by_ : Nat) : Bool := match P.info? e with
 | some i => (match i.zero with
  | some z => z.cells.size == s && i.size == s && i.bytes == by_
  | none => false)
 | none => false
def ElT (P : Program) (t e : TypeId) (s by_ : Nat) : Prop := P.underlying t = some (.slice e) ∧ (∃ z, (P.info? e).map (fun i => (i.zero, i.size, i.bytes)) = some (some z, s, by_) ∧ z.cells.size = s) ∧ 0 < s
theorem ElT.of {t e : TypeId} {s by_ : Nat} (h1 : P.underlying t = some (.slice e)) (h2 : elB P e s by_ = true) (h3 : 0 < s) : ElT P t e s by_ := by
 refine ⟨h1, ?_, h3⟩
 unfold elB at h2
 split at h2
 rename_i i hi
 split at h2
 rename_i z hz
 simp only [jj, beq_iff_eq] at h2
 exact ⟨z, by simp [hi, hz, h2.1.2, h2.2], h2.1.1⟩
 cases h2
 cases h2
theorem ElT.size {t e : TypeId} {s by_ : Nat} (h : ElT P t e s by_) : (P.info? e).map (·.size) = some s := by
 obtain ⟨_, ⟨z, hz, _⟩, _⟩ := h
 obtain ⟨i, h1, _, h3, _⟩ := info_parts hz
 simp [h1, h3]
theorem ElT.zs {t e : TypeId} {s by_ : Nat} (h : ElT P t e s by_) : ∃ z, (P.info? e).map (fun i => (i.zero, i.size)) = some (some z, s) := by
 obtain ⟨_, ⟨z, hz, _⟩, _⟩ := h
 obtain ⟨i, h1, h2, h3, _⟩ := info_parts hz
 exact ⟨z, by simp [h1, h2, h3]⟩
theorem qt9 {K : Ctx} {p : Addr → Prop} {σ : St} {w : World} {cur : Array Value} {e : TypeId} {s n cap : Nat} {l : List D} {xs : List Value} (hi : Inv K p σ w) (hs : cur.size = cap * s) (ht : cur.toList.take (n * s) = xs) (hr : zz p w l xs) (h1 : ∀ u ∈ xs, u.oneCell' = true) (hl : l.length = n) (hn : n ≤ cap) (hc : cap ≤ maxLen) :
 ∃ p', Rep p' (w.alloc (.cells cur e)) (.own (.slice (some ⟨w.heap.size, 0, none⟩) n cap) l) (.slice (some ⟨w.heap.size, 0, none⟩) n cap) ∧ Inv K p' (.row (.slice (some ⟨w.heap.size, 0, none⟩) n cap) n e s :: σ) (w.alloc (.cells cur e)) ∧ zT p w p' (w.alloc (.cells cur e)) := by
 have hlen : n * s ≤ cap * s := jM s hn
 have hcell : ∀ j, (w.alloc (.cells cur e)).cell? ⟨w.heap.size, j, none⟩ = cur[j]? := fun j => cell_of_row _ _ _ _ _ _ (heap_alloc_new w _)
 have g0 := qgy hi.pub (.cells cur e)
 have hg := (hi.alloc (.cells cur e)).give (fun a => a.block = w.heap.size ∧ a.spot = none ∧ a.off < n * s) fun a ⟨e1, e2, e3⟩ => by
  obtain ⟨b, of, sp⟩ := a
  simp only at e1 e2 e3
  subst e1 e2
  have hlt : of < cur.size := by omega
  refine ⟨⟨cur[of], by rw [hcell]; simp [hlt]⟩, .inl hi.size, fun o' ho b hb hab => ?_⟩
  have := (hi.ok o' ho).lt hb
  simp only at hab
  omega
 have gr := g0.tr (ql1 p (fun a => a.block = w.heap.size ∧ a.spot = none ∧ a.off < n * s) (w.alloc (.cells cur e)))
 refine ⟨_, ?_, hg.more ⟨⟨xs, ?_, .inr ⟨w.heap.size, cap, cur, rfl, jc _, heap_alloc_new w _, hn, hc, hs, ht⟩⟩, ?_⟩ ?_, gr⟩
 · simp only [Rep]
   refine ⟨trivial, _, cap, xs, by rw [hl], by omega, by unfold maxLen at hc; omega, .inr ⟨w.heap.size, 0, rfl, fun j u hu => ?_⟩, hr.grow gr, h1⟩
   have hj := (jt.1 hu).1
   rw [← ht] at hu hj
   rw [vB] at hj
   rw [j8, if_pos oa] at hu
   refine ⟨.inr ⟨rfl, rfl, by simp only; omega⟩, ?_⟩
   rw [ju, hcell]
   simpa using hu
 · rw [← ht, vB]; simp; omega
 · intro g hgb a ha hab
   simp only [Value.ownBlock, Option.some.injEq] at hgb
   rcases ha with ha | ⟨_, _, ha⟩
   · obtain ⟨v, hv⟩ := hi.pub a ha
     have := qoW hv
     omega
   · exact ha
 · intro b hb
   simp only [Ob.blk, Value.ownBlock, Option.some.injEq] at hb
   have hb : w.heap.size = b := hb
   subst hb
   exact ⟨.inl hi.size, fun hm => by have := hi.lt hm; omega⟩
theorem qBB {p : Addr → Prop} {w : World} {u v : Value} {l : List D} {e : TypeId} {s n : Nat} (hv : Rep p w (.own u l) v) (ho : zbE p w (.row u n e s)) (hn : n = l.length) (hall : zJ s l) : v = u ∧ ((u = .slice none 0 0 ∧ l = []) ∨ ∃ g cap cur xs, u = .slice (some ⟨g, 0, none⟩) l.length cap ∧ w.heap[g]? = some (.cells cur e (0, 0)) ∧ l.length ≤ cap ∧ cap ≤ maxLen ∧ cur.size = cap * s ∧ cur.toList.take (l.length * s) = xs ∧ zz p w l xs ∧ (∀ x ∈ xs, x.oneCell' = true) ∧ xs.length = l.length * s ∧ ∀ a, p a → a.block = g → a.off < l.length * s) := by
 subst hn
 simp only [Rep] at hv
 obtain ⟨rfl, A, c, xs, h1, h2, h3, h4, h5, h6⟩ := hv
 refine ⟨rfl, ?_⟩
 obtain ⟨⟨xs0, k1, k2⟩, k3⟩ := ho
 rcases k2 with ⟨k2, k4⟩ | ⟨g, cap, cur, k2, _, k4, k5, k6, k7, k8⟩
 exact .inl ⟨k2, jA k4⟩
 refine .inr ⟨g, cap, cur, xs, k2, k4, k5, k6, k7, ?_, h5, h6, by rw [h5.len, hall.szs], fun a ha hb => k3 g (by rw [k2]; rfl) a ha hb⟩
 have hlen : xs.length = l.length * s := by rw [h5.len, hall.szs]
 have hle : l.length * s ≤ cap * s := jM s k5
 rcases h4 with h4 | ⟨b, o', h4, h7⟩
 subst h4
 have : l.length * s = 0 := by simpa using hlen.symm
 rw [this]; rfl
 rw [h1, h4] at k2
 injection k2 with k2
 injection k2 with k2
 injection k2 with e1 e2
 subst e1 e2
 apply List.ext_getElem?
 intro j
 rw [j8]
 split
 rename_i hj
 have hx := jq (l := xs) (i := j) oa
 have := (h7 j _ hx).2
 rw [ju, cell_of_row _ _ _ _ _ _ k4] at this
 rw [hx]
 simpa using this
 rw [List.getElem?_eq_none oa]
theorem qBj {x y : Operand} {t e : TypeId} {s by_ : Nat} {σ τ : St} {u : Value} {l m : List D} {dy : D} (ho : o.op = .call { callee := .builtin .append, args := #[x, y], argTypes := #[t, t] }) (hE : ElT P t e s by_) (hx : ρ x = some (.own u l)) (hy : ρ y = some dy) (hm : AsL dy m) (hσ : σ.Perm (.row u l.length e s :: τ)) (hl : zJ s l) (hml : zJ s m) (hb : (l.length + m.length) * by_ ≤ 140737488355328) (h63 : l.length + m.length ≤ 9223372036854775807) :
 zC P o ρ σ fun d' σ' => ∃ u', d' = .own u' (l ++ m) ∧ σ' = .row u' (l ++ m).length e s :: τ := fun K p a w hi h => by
 rw [je]
 obtain ⟨hu, ⟨z, hz, hzs⟩, hs0⟩ := hE
 obtain ⟨i, hii, hz', hsize, hby⟩ := info_parts hz
 have hi' := hi.perm hσ
 have hxv := h x (by rw [ho]; simp [Op.operands, Call.operands]) _ hx
 obtain ⟨A, c, ys, g1, g2, g3, g4, g5, g6⟩ := hm.rep (h y (by rw [ho]; simp [Op.operands, Call.operands]) _ hy)
 obtain ⟨hvu, hopen⟩ := qBB hxv (hi'.ok _ (jd ..)) rfl hl
 have hyl : ys.length = m.length * s := by rw [g5.len, hml.szs]
 have hrun0 : ∀ r, (Builtin.append_ #[t, t] o.type #[u, .slice A m.length c]).run P w = r → (execOp a.eval o).run P w = r.andThen fun v w' => .ok (.value v) w' := fun r hr => by
  subst hr
  unfold execOp
  simp only [ho, resolve, invoke, builtin, Sem.run_bind, Sem.run_pure, Result.andThen_ok, List.map_toArray, jm, j7, hvu, g1]
 have hmx : maxLen = 9223372036854775807 := rfl
 -- where nothing is appended
 by_cases hm0 : m.length = 0
 · have hm0' : m = [] := jA hm0
   subst hm0'
   have hys : ys = [] := jA (by simpa using hyl)
   have hr : (Builtin.append_ #[t, t] o.type #[u, .slice A 0 c]).run P w = .ok u w := by
    rcases hopen with ⟨rfl, rfl⟩ | ⟨g, cap, cur, xs, rfl, k1, k2, _⟩
    cases A <;> simp [Builtin.append_, run_underlying hu, sizeOf, typeInfo, hii, Builtin.lenOf, Builtin.firstCells, loadCells, loadCellsFrom]
    cases A <;> simp [Builtin.append_, run_underlying hu, sizeOf, typeInfo, hii, Builtin.lenOf, Builtin.firstCells, loadCells, loadCellsFrom, k2, storeCells]
   unfold Oper.wp
   rw [hrun0 _ hr]
   refine ⟨u, .own u (l ++ []), _, p, rfl, ⟨u, rfl, rfl⟩, ?_, by simpa using hi', zT.refl p w⟩
   rw [js]
   rw [hvu] at hxv
   exact hxv
 -- the cells that are appended
 · have hys : ys ≠ [] := fun hys => by
    rw [hys] at hyl
    have := vw (vx hm0) hs0
    simp at hyl
    omega
   rcases g4 with g4 | ⟨b, o', rfl, hcell⟩
   · exact absurd g4 hys
   have hnews : ∀ j v, ys[j]? = some v → w.cell? ((⟨b, o', none⟩ : Addr).add j) = some v := fun j v hv => by rw [zbk]; exact (hcell j v hv).2
   subst hsize
   subst hby
   have grown : ∀ (xs : List Value) (old : Nat), zz p w l xs → (∀ x ∈ xs, x.oneCell' = true) → xs.length = l.length * i.size → old < l.length + m.length →
    ∃ p' u', u' = .slice (some ⟨w.heap.size, 0, none⟩) (l.length + m.length) (grownCap w (l.length + m.length) old e) ∧ Rep p' (w.drew.alloc (.cells (xs.toArray ++ ys.toArray ++ Builtin.zeroCells z.cells (grownCap w (l.length + m.length) old e - (l.length + m.length))) e)) (.own u' (l ++ m)) u' ∧ Inv K p' (.row u' (l.length + m.length) e i.size :: τ) (w.drew.alloc (.cells (xs.toArray ++ ys.toArray ++ Builtin.zeroCells z.cells (grownCap w (l.length + m.length) old e - (l.length + m.length))) e)) ∧
     zT p w p' (w.drew.alloc (.cells (xs.toArray ++ ys.toArray ++ Builtin.zeroCells z.cells (grownCap w (l.length + m.length) old e - (l.length + m.length))) e)) := fun xs old hr1 hr2 hr3 hold => by
    have hge := grownCap_ge w (l.length + m.length) old e
    have hcm : grownCap w (l.length + m.length) old e ≤ maxLen := grownCap_le_maxLen w (l.length + m.length) old e (by unfold maxLen; omega)
    have hlen : (xs ++ ys).length = (l.length + m.length) * i.size := by rw [je, hr3, hyl, jy]
    obtain ⟨p', q1, q2, q3⟩ := qt9 (K := K) (p := p) (σ := τ) (w := w.drew) (cur := xs.toArray ++ ys.toArray ++ Builtin.zeroCells z.cells (grownCap w (l.length + m.length) old e - (l.length + m.length))) (e := e) (s := i.size) (n := l.length + m.length) (cap := grownCap w (l.length + m.length) old e) (l := l ++ m) (xs := xs ++ ys) hi'.tail.drew (by
     simp only [Array.size_append, j5, size_zeroCells, hzs, hr3, hyl, ← jy]
     congr 1
     omega) (by
     simp only [Array.toList_append, ji]
     rw [← ji, ← hlen]
     exact vH) ((hr1.app g5).grow (qhs p w)) (fun x hx => (jl.1 hx).elim (hr2 x) (g6 x)) og hge hcm
    exact ⟨p', _, rfl, q1, q2, q3⟩
   have hmpos : 0 < m.length := vx hm0
   rcases hopen with ⟨rfl, rfl⟩ | ⟨g, cap, cur, xs, rfl, k1, k2, k3, k4, k5, k6, k7, k8, k9⟩
   · have hr := run_append_nil (P := P) w t o.type e i z hu hii hz' ⟨b, o', none⟩ m.length c ys hyl hnews oa oa (by have hb := hb; simp only [jV, ju] at hb; omega)
     obtain ⟨p', u', hu', q1, q2, q3⟩ := grown [] 0 (zz.nil _ _) og og oe
     simp only [jV, ju, Array.empty_append, jo] at hr q1 q2 q3 hu' ⊢
     unfold Oper.wp
     rw [hrun0 _ hr]
     subst hu'
     exact ⟨_, _, _, p', rfl, ⟨_, rfl, rfl⟩, q1, q2, q3⟩
   · by_cases hroom : l.length + m.length ≤ cap
     · have hfit : l.length * i.size + ys.length ≤ cur.size := by rw [hyl, k4, ← jy]; exact jM _ hroom
       have hr := run_append_room (P := P) w t o.type e i hu hii g l.length cap cur k1 ⟨b, o', none⟩ m.length c ys hyl hnews g6 hroom hfit
       unfold Oper.wp
       rw [hrun0 _ hr]
       generalize hnew : (cur.toList.take (l.length * i.size) ++ ys ++ cur.toList.drop (l.length * i.size + ys.length)) = new
       have hgl : g < w.heap.size := (jE.1 k1).1
       have hh := setRow_heap w g cur new.toArray e (0, 0) k1
       have hcellg : ∀ j, (w.setRow g new.toArray).cell? ⟨g, j, none⟩ = new[j]? := fun j => by rw [cell_of_row _ _ _ _ _ _ hh]; simp
       have htl : (cur.toList.take (l.length * i.size)).length = l.length * i.size := by rw [k5, k8]
       have hold : ∀ j, j < l.length * i.size → new[j]? = cur[j]? := fun j hj => by
        rw [← hnew, ji, jT oa, j8, if_pos hj]
        simp
       have hnewl : new.take ((l.length + m.length) * i.size) = xs ++ ys := by
        rw [← hnew, k5]
        have : (xs ++ ys).length = (l.length + m.length) * i.size := by rw [je, k8, hyl, jy]
        rw [← this]
        exact vH
       have hspot : ∀ a', p a' → a'.block = g → a' = ⟨g, a'.off, none⟩ := fun a' ha hab => by
        obtain ⟨v, hv⟩ := hi.pub a' ha
        obtain ⟨b', o'', s'⟩ := a'
        simp only at hab
        subst hab
        unfold World.cell? at hv
        simp only [k1] at hv
        cases s' with
        | none => rfl
        | some q => simp at hv
       have hcell' : ∀ a', p a' → (w.setRow g new.toArray).cell? a' = w.cell? a' := fun a' ha => by
        by_cases hab : a'.block = g
        · have hlt := k9 a' ha hab
          rw [hspot a' ha hab, hcellg, hold _ hlt, cell_of_row _ _ _ _ _ _ k1]
        · exact qju (setRow_other w g _ _ hab)
       have gr : zT p w (fun a' => p a' ∨ (a'.block = g ∧ a'.spot = none ∧ a'.off < (l.length + m.length) * i.size)) (w.setRow g new.toArray) := fun a' ha => ⟨.inl ha, hcell' a' ha⟩
       have hle : (l.length + m.length) * i.size ≤ cap * i.size := jM _ hroom
       have hnl : new.length = cap * i.size := by
        rw [← hnew]
        simp only [je, vy, htl, hyl, jW, k4]
        rw [jy] at hle
        omega
       refine ⟨.slice (some ⟨g, 0, none⟩) (l.length + m.length) cap, .own (.slice (some ⟨g, 0, none⟩) (l.length + m.length) cap) (l ++ m), _, _, rfl, ⟨_, rfl, rfl⟩, ?_, ?_, gr⟩
       · simp only [Rep]
         refine ⟨trivial, _, cap, xs ++ ys, by rw [je], by rw [je]; exact hroom, by omega, .inr ⟨g, 0, rfl, fun j v hv => ?_⟩, (k6.app g5).grow gr, fun x hx => (jl.1 hx).elim (k7 x) (g6 x)⟩
         have hj := (jt.1 hv).1
         rw [je, k8, hyl, ← jy] at hj
         refine ⟨.inr ⟨rfl, rfl, by simp only; omega⟩, ?_⟩
         rw [ju, hcellg]
         rw [← hnewl, j8, if_pos hj] at hv
         exact hv
       · refine hi'.write (b := g) rfl rfl gr (fun a' ha => ha.elim .inl fun h => .inr h.1) ⟨⟨xs ++ ys, ?_, .inr ⟨g, cap, new.toArray, rfl, jc _, hh, hroom, k3, by simpa using hnl, by simpa using hnewl⟩⟩, fun g' hg' a' ha hab => ?_⟩ (fun a' ha => ?_) rfl rfl rfl og fun k hk => setRow_other w g k _ hk
         · rw [je, k8, hyl, jy]
         · simp only [Value.ownBlock, Option.some.injEq] at hg'
           have hg' : g = g' := hg'
           subst hg'
           rcases ha with ha | ⟨_, _, ha⟩
           · have := k9 a' ha hab
             rw [jy]
             omega
           · exact ha
         · rcases ha with ha | ⟨e1, e2, e3⟩
           · obtain ⟨v, hv⟩ := hi.pub a' ha
             exact ⟨v, by rw [hcell' a' ha]; exact hv⟩
           · obtain ⟨b', o'', s'⟩ := a'
             simp only at e1 e2 e3
             subst e1 e2
             refine ⟨new[o'']'(by omega), ?_⟩
             rw [hcellg]
             exact jq _
     · have holds : ∀ j v, xs[j]? = some v → w.cell? ((⟨g, 0, none⟩ : Addr).add j) = some v := fun j v hv => by
        rw [zbk, ju, cell_of_row _ _ _ _ _ _ k1]
        have hj := (jt.1 hv).1
        rw [← k5, j8, if_pos oa] at hv
        simpa using hv
       have hr := run_append_grow (P := P) w t o.type e i z hu hii hz' ⟨g, 0, none⟩ l.length cap xs k8 holds ⟨b, o', none⟩ m.length c ys hyl hnews oa oa (growslice_fits oa hb)
       obtain ⟨p', u', hu', q1, q2, q3⟩ := grown xs cap k6 k7 k8 oa
       unfold Oper.wp
       rw [hrun0 _ hr]
       subst hu'
       exact ⟨_, _, _, p', rfl, ⟨_, rfl, rfl⟩, q1, q2, q3⟩
end
section
variable {P : Program} {o : Oper} {ρ : Operand → Option D} {d : D}
theorem qN (e : TypeId) (s : Nat) {σ : St} (ho : (o.op = .assign (.const (.slice none 0 0)) ∨ o.op = .move (.const (.slice none 0 0)))) : zC P o ρ σ fun d' σ' => ∃ u, d' = .own u [] ∧ σ' = .row u 0 e s :: σ := fun K p a w hi h => by
 have hr : (execOp a.eval o).run P w = .ok (.value (.slice none 0 0)) w := by
  unfold execOp
  rcases ho with ho | ho <;> rw [ho] <;> rfl
 unfold Oper.wp
 rw [hr]
 refine ⟨_, .own (.slice none 0 0) [], _, p, rfl, ⟨_, rfl, rfl⟩, ?_, hi.more ⟨⟨[], World.ownsRow_nil w 0 e s⟩, fun g hg => by simp [Value.ownBlock] at hg⟩ (fun b hb => by simp [Ob.blk, Value.ownBlock] at hb), zT.refl p w⟩
 simp only [Rep]
 exact ⟨trivial, none, 0, [], rfl, by simp, by omega, .inl rfl, zz.nil _ _, by simp⟩
theorem qDy {t e : TypeId} {x y : Operand} {s by_ c : Nat} {k k' : IntKind} {n : Int} {σ : St} (ho : o.op = .makeSlice t x y) (hE : ElT P t e s by_) (hx : ρ x = some (.int k 0)) (hy : ρ y = some (.int k' n)) (hn : n = (c : Int)) (hb : by_ * c ≤ 281474976710656) (hc : c ≤ 9223372036854775807) :
 zC P o ρ σ fun d' σ' => ∃ u, d' = .own u [] ∧ σ' = .row u 0 e s :: σ := fun K p a w hi h => by
 obtain ⟨hu, ⟨z, hz, hzs⟩, hs0⟩ := hE
 obtain ⟨i, hii, hz', hsize, hby⟩ := info_parts hz
 have h1 := h x (by rw [ho]; simp [Op.operands]) _ hx
 have h2 := h y (by rw [ho]; simp [Op.operands]) _ hy
 simp only [Rep] at h1 h2
 subst hn
 have hbi : (i.bytes : Int) * (c : Int) ≤ 281474976710656 := by
  have : ((i.bytes * c : Nat) : Int) ≤ 281474976710656 := by rw [hby]; omega
  rwa [Int.natCast_mul] at this
 have hr := run_make (P := P) w t e i z hu hii hz' k k' 0 (c : Int) (jX _) oa hbi oa
 simp only [Int.toNat_zero, vC] at hr
 have hrun : (execOp a.eval o).run P w = .ok (.value (.slice (some ⟨w.heap.size, 0, none⟩) 0 c)) (w.alloc (.cells (madeCells z.cells (c * i.size)) e)) := by
  unfold execOp
  rw [ho]
  simp [h1.1, h2.1, hr]
 unfold Oper.wp
 rw [hrun]
 obtain ⟨p', q1, q2, q3⟩ := qt9 (K := K) (p := p) (σ := σ) (w := w) (cur := madeCells z.cells (c * i.size)) (e := e) (s := s) (n := 0) (cap := c) (l := []) (xs := []) hi (by rw [size_madeCells, hsize]) og (zz.nil _ _) og rfl (jc _) (by unfold maxLen; omega)
 exact ⟨_, _, _, p', rfl, ⟨_, rfl, rfl⟩, q1, q2, q3⟩
end
section
variable {P : Program} {o : Oper} {ρ : Operand → Option D} {d : D}
theorem qEV {x : Operand} {t e : TypeId} {s by_ : Nat} {dx : D} {l : List D} (ho : o.op = .call { callee := .builtin .len, args := #[x], argTypes := #[t] }) (hE : ElT P t e s by_) (hx : ρ x = some dx) (hl : AsL dx l) : zD P o ρ (.int .i64 (l.length : Int)) := qES ho hE.1 hx hl
theorem qDM {t e : TypeId} {x ix : Operand} {s by_ : Nat} {dx : D} {l : List D} {k : IntKind} {n : Int} (j : Nat) (ho : o.op = .indexAddr t x ix) (hE : ElT P t e s by_) (hx : ρ x = some dx) (hl : AsL dx l) (hix : ρ ix = some (.int k n)) (hn : n = (j : Int)) (hd : l[j]? = some d) (hall : zJ s l) (hp : d.plain = true) : zD P o ρ (.ptr d) := qDI ho hE.1 hE.size hE.2.2 hx hl hix hn hd hall hp
theorem qE2 {t e : TypeId} {n s by_ : Nat} {parts : Array (Nat × Operand)} (xs : List Operand) {ds : List D} (ho : o.op = .buildSlice t n parts) (hE : ElT P t e s by_) (hps : parts.toList = (xs.zipIdx 0).map fun x => (x.2, x.1)) (hn : n = xs.length) (hn0 : 0 < n) (hsm : n * s ≤ 16777216) (hO : zar ρ xs ds) (hsz : zJ s ds) (hpl : ∀ d ∈ ds, d.plain = true) : zD P o ρ (.full ds) :=
 let ⟨_, hz⟩ := hE.zs
 qEU ho hE.1 hz hE.2.2 hps hn hn0 hsm hO hsz hpl
theorem qDU {t e : TypeId} {parts : Array (Nat × Operand)} {s by_ : Nat} (ho : o.op = .buildSlice t 0 parts) (hE : ElT P t e s by_) (hps : parts.toList = []) : zD P o ρ (.full []) := qDX ho hE.1 hE.size hps
theorem qEQ {t e : TypeId} {x : Operand} {low high : Option Operand} {s by_ : Nat} {dx : D} {l : List D} (lo hi : Nat) (ho : o.op = .slice t x low high none) (hE : ElT P t e s by_) (hx : ρ x = some dx) (hl : AsL dx l) (h1 : zaV ρ low lo) (h2 : zaS ρ l.length high hi) (hlo : lo ≤ hi) (hhi : hi ≤ l.length) (hall : zJ s l) : zD P o ρ (.lst ((l.take hi).drop lo)) := qEW ho hE.1 hE.size hx hl h1 h2 hlo hhi hall
theorem qey {t : TypeId} {x : Operand} {n b off : Nat} {path : List Nat} {σ : St} {d0 : D} (ho : o.op = .load t x) (hx : ρ x = some (.ref b off path)) (hσ : .cell b d0 ∈ σ) (hs : yX d0 path = some d) (hoff : yt d0 path = off) (ht : Ty P t d.isAgg n) (hn : sz d = n) : zC P o ρ σ fun d' σ' => d' = d ∧ σ' = σ := qAt ho hx hσ hs hoff ht hn
theorem qc9 {t : TypeId} {x y : Operand} {n b off : Nat} {path : List Nat} {σ : St} (τ : St) {d0 dOld e : D} {ag : Bool} (ho : o.op = .store t x y) (hx : ρ x = some (.ref b off path)) (hy : ρ y = some e) (hw : Wk e d) (hσ : σ.Perm (.cell b d0 :: τ)) (hs : yX d0 path = some dOld) (hoff : yt d0 path = off) (ht : Ty P t ag n) (hn : sz d = n) (hn' : sz dOld = n) (hp : d.plain = true) : zC P o ρ σ fun _ σ' => σ' = .cell b (zaP d0 path d) :: τ := qDu ho hx hy hw hσ hs hoff ht.2 hn hn' hp
theorem ym.agg {t : TypeId} {zs : List D} (h : zQ P t zs) : ym P t (.agg zs) := by
 obtain ⟨h1, it, fields, h2, h3, _⟩ := h
 exact ⟨by simpa [zok] using h1, .agg (zcs zs).toArray, by rw [h2]; simp [h3], by simp [Value.cells, zc]⟩
theorem ym.val {t : TypeId} {z : D} (v : Value) (h1 : zok z = true) (h2 : (P.info? t).map (·.zero) = some (some v)) (h3 : v.cells.toList = zc z) : ym P t z := ⟨h1, v, h2, h3⟩
theorem zao {α : Type} {f : α → D} {l : List α} {i : Nat} {a : α} (h : l[i]? = some a) : (l.map f)[i]? = some (f a) := by simp [h]
theorem zbJ {α : Type} {f : α → D} {l : List α} {s : Nat} (h : ∀ a, sz (f a) = s) : zJ s (l.map f) := fun d hd => by
 obtain ⟨a, _, rfl⟩ := jx.1 hd
 exact h a
theorem qct {m : Md} {f : FuncId} {fn : Func} {K : Ctx} {R : D → St → Prop} {k : List Item} {env : Env} {σ : St} (s : Nat) {dx : D} {l : List D} (hs : lk env s = some dx) (hl : AsL dx l) (h : l.length ≤ 9223372036854775807 → zk m P f fn K R k env σ) : zk m P f fn K R k env σ :=
 qsj (fun p a w _ hr => by
  obtain ⟨A, c, xs, _, h2, h3, _⟩ := hl.rep (hr s _ hs)
  omega) h
theorem qou {m : Md} {f : FuncId} {fn : Func} {K : Ctx} {R : D → St → Prop} {k : List Item} {env : Env} {σ : St} (s : Nat) {n : Int} (hs : lk env s = some (.int .i64 n)) (h : (-9223372036854775808 ≤ n ∧ n < 9223372036854775808) → zk m P f fn K R k env σ) : zk m P f fn K R k env σ :=
 qsj (fun p a w _ hr => by
  have := hr s _ hs
  simp only [Rep] at this
  exact qnA this.2) h
theorem qna {f : FuncId} {ds : List D} {v : Value} (hd : ∀ p w, Rep p w d v) (h : ∀ (p : Addr → Prop) (w : World) (vs : List Value), (∀ a, p a → ∃ u, w.cell? a = some u) → zH p w ds vs → Calls P f vs.toArray w (Ret w (Is v))) : zf P f ds d := fun w p vs hi hv => by
 refine (h p w vs hi.pub hv).mono fun e w' hr => ?_
 obtain ⟨v', rfl, hv', he⟩ := hr
 obtain rfl : v' = v := hv'
 have g : zT p w p w' := fun a ha => ⟨ha, by
  obtain ⟨u, hu⟩ := hi.pub a ha
  exact (he.cellOf hu).trans hu.symm⟩
 have hpub : ∀ a, p a → ∃ v, w'.cell? a = some v := fun a ha => by
  obtain ⟨u, hu⟩ := hi.pub a ha
  exact ⟨u, he.cellOf hu⟩
 refine .inl ⟨v', d, [], p, rfl, rfl, hd p w', ?_⟩
 exact { ok := fun o ho => (by cases ho), nd := List.nodup_nil, mine := fun b hb => (by cases hb), pub := hpub, gr := g, neu := fun a ha => .inl ha, os := he.os, tape := he.tape, output := he.output, size := he.size, block := fun b hb _ => he.block b hb }
theorem za {env : Env} {σ : St} {t : Nat} {e d : D} (h : lk env t = some e) (hw : Wk e d) : ResD P env σ (.tmp t) d := ⟨e, h, hw⟩
theorem zm {env : Env} {σ : St} {t b n : Nat} {ty : TypeId} {e d : D} (h : lk env t = some (.ref b 0 [])) (hm : .cell b e ∈ σ) (ht : Ty P ty e.isAgg n) (hn : sz e = n) (hw : Wk e d) : ResD P env σ (.cell t ty) d := ⟨e, n, hw, ht, hn, .inr ⟨b, h, hm⟩⟩
theorem zbS {env : Env} {σ : St} {t n : Nat} {ty : TypeId} {e d : D} (h : lk env t = some (.ptr e)) (ht : Ty P ty e.isAgg n) (hn : sz e = n) (hw : Wk e d) : ResD P env σ (.cell t ty) d := ⟨e, n, hw, ht, hn, .inl h⟩
end
end Go.Proofs.YtamoolpdganckaaGreat
