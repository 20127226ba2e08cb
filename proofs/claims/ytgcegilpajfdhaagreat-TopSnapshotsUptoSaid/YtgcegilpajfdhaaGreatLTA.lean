/-
 Texts of the seat,merged.
-/
import Derived.Test.YtgcegilpajfdhaaGreatChecked
import Derived.WalkKit
import Derived.Lib.Hide
import Derived.Lib.AppendStr
import Derived.Deep.AppendLies
import Derived.Deep.AppendSrc
import Derived.Deep.Draws
import Derived.Deep.QuietTactic
import Derived.BigQuiet
import Derived.Deep.RegionWith
import Derived.Maps.AppendAt
import Derived.WalkSpells
import Derived.Deep.Slices
import Derived.Deep.Fields
import Derived.ChangeArms
import Derived.Test.YtgcegilpajfdhaaGreatRows
import Derived.ProofKit
import Derived.OpenShut
import Derived.Carry
import Derived.Orders
import Derived.Lib.OthersKept
import Derived.Lib.TrimU
import Derived.Lib.IndexAny
import Derived.Deep.LoopGhost
import Derived.Lib.Bytealg
import Derived.RangeFuncBox
import Derived.RangeFuncNested
import Derived.RangeFuncBound
import Derived.RangeFuncCalls
import Derived.RangeFuncLeaves
import Derived.Shelf.Abstract
import Derived.OwnWalkIn
import Derived.TacticsInMore
import Derived.LoopNIn
import Derived.LoopIn
import Derived.RangeFuncWrites
import Derived.Maps.OwnIn
import Derived.Maps.Views
import Derived.Laws.OwnMore
import Derived.Maps.OwnSet
import Derived.Laws.IdiomStrings
import Derived.OrdersIn
import Derived.Great.BuildSlice
import Derived.ArgAppend
import Derived.Laws.MakeOwn
import Derived.Laws.Cover3
import Derived.ChangeSlices
import Derived.Laws.CopyRow
import Derived.MapKept
import Derived.Maps.RangeRun
import Derived.DeepKeys5
import Derived.WideKeyRuns
import Derived.RangeFuncOwn
import Derived.Defers
import Derived.Recover
import Derived.Tactics
import Derived.Tactics2
import Derived.Laws.Pointers
import Derived.JoinedCond
import Derived.Lib.AppendZeros
import Derived.Lib.Overlaps
import Derived.Lib.AppendZerosOnto
import Derived.Shelf.SlIterI.Nil
import Derived.Shelf.SortM.Plain
import Derived.Shelf.SortM.SortNone
import Derived.Shelf.SlicesG.CompactI
set_option linter.unusedVariables false
set_option linter.unusedSimpArgs false
set_option linter.unnecessarySimpa false
set_option linter.all false
set_option maxHeartbeats 8000000
namespace Go.Proofs.YtgcegilpajfdhaaGreat
open Go.Proofs.Tryz
set_option maxRecDepth 100000
open Go.RowKit
theorem oa{p:Prop}(h:p:=by omega):p:=h
theorem ob{p:Prop}(h:p:=by kernel_rfl):p:=h
theorem od{p:Prop}(h:p:=by decide):p:=h
theorem oe{p:Prop}(h:p:=by simp;omega):p:=h
theorem og{p:Prop}(h:p:=by simp):p:=h
abbrev ja:=@List.length_append
abbrev jb:=@Option.bind_some
abbrev jc:=@Nat.zero_add
abbrev jd:=@List.getElem?_eq_some_iff
abbrev je:=@List.mem_cons_self
abbrev jf:=@Nat.le_refl
abbrev jg:=@List.length_cons
abbrev jh:=@List.length_map
abbrev ji:=@List.length_nil
abbrev jj:=@List.getElem?_eq_getElem
abbrev jk:=@Bool.and_eq_true
abbrev jl:=@List.mem_append
abbrev jm:=@List.map_cons
abbrev jo:=@List.append_assoc
abbrev jp:=@List.mem_cons_of_mem
abbrev jq:=@List.nil_append
abbrev jr:=@List.mem_singleton
abbrev jt:=@List.mem_map
abbrev ju:=@Nat.zero_le
abbrev jv:=@List.append_nil
abbrev jx:=@List.mem_cons
abbrev jy:=@List.cons_append
abbrev jz:=@List.mem_append_left
abbrev jA:=@List.length_take
abbrev jB:=@List.mem_append_right
abbrev jC:=@Option.map_eq_some_iff
abbrev jD:=@List.all_eq_true
abbrev jE:=@Nat.add_mul
abbrev jF:=@List.take_length
abbrev jG:=@List.eq_nil_of_length_eq_zero
abbrev jH:=@Nat.mul_le_mul_right
abbrev jI:=@List.take_add_one
abbrev jJ:=@List.map_append
abbrev jK:=@List.set_cons_succ
abbrev jL:=@Array.getElem?_eq_some_iff
abbrev jM:=@List.mem_map_of_mem
abbrev jN:=@List.set_cons_zero
abbrev jO:=@Int.toNat_natCast
abbrev jP:=@Bool.eq_iff_iff
abbrev jQ:=@List.setIfInBounds_toArray
abbrev jR:=@List.map_map
abbrev jS:=@Nat.add_assoc
abbrev jT:=@List.nodup_append
abbrev jU:=@List.map_nil
abbrev jV:=@List.size_toArray
abbrev jW:=@Int.tmod
abbrev jX:=@Nat.beq
abbrev jY:=@Array.toList_inj
abbrev jZ:=@List.getElem?_take
abbrev j3:=@List.getElem?_append_left
abbrev j4:=@List.length_drop
abbrev j5:=@Bool.not_true
abbrev j6:=@Nat.mul_pos
abbrev j7:=@List.take_append_drop
abbrev j8:=@Array.length_toList
abbrev j9:=@List.mem_of_mem_take
abbrev va:=@Bool.false_eq_true
abbrev vc:=@Array.getElem?_toList
abbrev vd:=@List.nodup_cons
abbrev ve:=@List.append_of_mem
abbrev vf:=@Int.le_refl
abbrev vg:=@List.take_of_length_le
abbrev vh:=@Nat.add_zero
abbrev vi:=@Nat.lt_of_lt_of_le
abbrev vj:=@List.foldl_cons
abbrev vl:=@List.flatMap_cons
abbrev vo:=@List.drop_eq_nil_of_le
abbrev vp:=@Bool.true_and
abbrev vq:=@List.getElem?_map
abbrev vt:=@List.filterMap_cons
abbrev vu:=@Nat.min_eq_left
abbrev vx:=@Nat.one_mul
abbrev vy:=@List.mem_of_mem_drop
abbrev vz:=@List.length_replicate
abbrev vA:=@List.getElem?_set
abbrev vB:=@Array.getElem?_eq_getElem
abbrev vC:=@List.any_eq_true
abbrev vD:=@List.getElem?_toArray
abbrev vE:=@List.take_left'
abbrev vF:=@List.map_toArray
abbrev vG:=@Nat.le_trans
abbrev vH:=@List.perm_append_comm
abbrev vI:=@Array.mem_append
abbrev vJ:=@List.drop_zero
abbrev vK:=@List.take_left
abbrev vL:=@List.nodup_nil
abbrev vM:=@List.flatten_cons
abbrev vN:=@Bool.eq_false_iff
abbrev vO:=@List.pairwise_append
abbrev vP:=@List.getElem?_append_right
abbrev vQ:=@List.take_succ_cons
abbrev vR:=@Bool.false_or
abbrev vS:=@List.mem_filter
abbrev vT:=@List.length_set
abbrev vU:=@Nat.pos_of_ne_zero
abbrev vV:=@List.replicate_succ
abbrev vW:=@Array.toList_push
abbrev vX:=@List.drop_eq_getElem_cons
abbrev vY:=@List.take_zero
abbrev vZ:=@List.map_take
abbrev v7:=@List.take_length_add_append
abbrev Ja:=@List.drop_length_add_append
abbrev Jb:=@Array.getElem?_setIfInBounds_ne
abbrev Jc:=@Array.size_append
abbrev Jd:=@Array.toList_append
abbrev Je:=@Int.toNat_zero
abbrev Jf:=@Option.map_some
abbrev Jg:=@List.eq_of_mem_replicate
abbrev Jh:=@List.pairwise_map
abbrev Ji:=@Nat.succ_mul
abbrev Jj:=@Nat.lt_or_ge
abbrev Jk:=@List.all_cons
abbrev Jl:=@Int.eq_ofNat_of_zero_le
abbrev Jm:=@List.filter_cons
abbrev Jn:=@List.take_append_of_le_length
abbrev Jo:=@List.take_take
abbrev Jp:=@List.length_filter_le
abbrev Jq:=@Bool.or_eq_true
abbrev Jr:=@Nat.reduceAdd
abbrev Js:=@Nat.reduceSub
abbrev Jt:=@Array.replicate_succ
abbrev Ju:=@Array.replicate_zero
abbrev Jv:=@List.push_toArray
abbrev Jw:=@List.append_toArray
abbrev Jy:=@Int.natCast_mul
abbrev Jz:=@Nat.mod_eq_of_lt
abbrev JA:=@List.map_drop
abbrev JB:=@Array.getElem?_append_left
abbrev JC:=@Option.getD_some
abbrev JD:=@List.getElem?_cons_succ
abbrev JE:=@List.drop_append_of_le_length
abbrev JF:=@List.getElem?_eq_none
abbrev JG:=@List.pairwise_iff_getElem
abbrev JH:=@List.getElem?_cons_zero
abbrev JI:=@Nat.lt_irrefl
abbrev JJ:=@List.getElem_mem
abbrev JK:=@List.filter_append
abbrev JL:=@List.takeWhile_cons
abbrev JM:=@List.mem_reverse
abbrev JN:=@List.length_eq_zero_iff
abbrev JO:=@Nat.mul_le_mul_left
abbrev JP:=@List.eq_nil_iff_forall_not_mem
abbrev JQ:=@List.zipIdx_cons
abbrev JR:=@List.mem_flatMap
abbrev JS:=@List.length_pos_iff
abbrev JU:=@Array.getElem?_modify
abbrev JV:=@Nat.lt_of_le_of_lt
abbrev JW:=@List.perm_middle
abbrev JX:=@List.length_singleton
abbrev JY:=@List.flatten_nil
abbrev JZ:=@List.pairwise_singleton
abbrev J0:=@List.takeWhile_append_dropWhile
abbrev J1:=@List.mem_or_eq_of_mem_set
abbrev J2:=@Array.getElem?_setIfInBounds
abbrev J3:=@Option.bind_eq_some_iff
abbrev J4:=@List.findIdx?_eq_some_iff_getElem
abbrev Ext(w w':World):Prop:=Below w.heap.size w w'
theorem Ext.rfl'(w:World):Ext w w:=Below.refl _ _
theorem Ext.tr{a b c:World}(h:Ext a b)(k:Ext b c):Ext a c:=h.trans (k.mono h.size)
theorem Ext.al{a b:World}(h:Ext a b)(o:Obj):Ext a (b.alloc o):=Below.alloc h h.size o
theorem Ext.dr{a b:World}(h:Ext a b):Ext a b.drew:=Below.drew h
theorem Ext.drN{a b:World}(h:Ext a b)(n:Nat):Ext a (b.drewN n):=⟨h.os,h.tape,h.output,h.size,h.block⟩
theorem Ext.cellOf{a b:World}(h:Ext a b){p:Addr}{v:Value}(c:a.cell? p=some v):b.cell? p=some v:=
 (h.cell (World.block_lt_of_cell? a p c)).trans c
theorem qul(a:Addr)(i j:Nat):(a.add i).add j=a.add (i+j):=by
 unfold Addr.add;by_cases hi:i=0<;>by_cases b:j=0<;>simp[hi,b,jS]
theorem zH{p:Prop}(h:p):Hid p:=h
theorem za{p:Prop}(h:Hid p):p:=h
def zbK(p:Prop):Prop:=p
theorem qfa{p:Prop}(h:zbK p):p:=h
theorem qqB{p:Prop}(h:p):zbK p:=h
theorem qx8{P:Program}{ops:Array Oper}{rest:List Oper}{o:Oper}{a:Act}{Q:Exit→Act→World→Prop}{w:World}(d:Nat)(_h:o.dst=some d)(b:zbK (wpList P ops Q (o::rest) a w)):wpList P ops Q (o::rest) a w:=b
theorem qi5{P:Program}{ops:Array Oper}{rest:List Oper}{o:Oper}{a:Act}{Q:Exit→Act→World→Prop}{w:World}(hw:Region.wanted o (yielded ops a.tmps)=true)
 (h:∀K:Act→World→Prop,(∀a w,wpList P ops Q rest a w→K a w)→o.wp P a w K Q):wpList P ops Q (o::rest) a w:=
 wpList_step fun K hK=>by rw[if_pos hw];exact h K hK
def Rd(w:World)(A:Option Addr)(xs:List Value):Prop:=xs=[]∨∃ad,A=some ad∧∀j u,xs[j]? =some u→w.cell? (ad.add j)=some u
section
variable{w w':World}{A:Option Addr}{xs:List Value}
theorem Rd.nil(w:World)(A:Option Addr):Rd w A []:=.inl rfl
theorem Rd.ext(h:Rd w A xs)(e:Ext w w'):Rd w' A xs:=by
 rcases h with h|⟨ad,a,b⟩
 exact .inl h;exact .inr ⟨ad,a,fun j u hu=>e.cellOf (b j u hu)⟩
theorem Rd.at_(h:Rd w A xs){k:Nat}{u:Value}(a:xs[k]? =some u):∃ad,A=some ad∧w.cell? (ad.add k)=some u:=by
 rcases h with rfl|⟨ad,b,c⟩
 simp at a;exact⟨ad,b,c k u a⟩
end
section
variable{P:Program}(w:World)
theorem qti(base:Nat)(t ty e:TypeId)(i:TypeInfo)(size:Nat)(d:P.underlying t=some (.slice e))(hi:P.info? e=some i)
 (v:Value) (n:Nat) (xs:List Value) (a:w.ownsRow base e size v n xs) (c:Nat):(Builtin.append_ #[t,t] ty #[v,.slice none 0 c]).run P w= .ok v w:=by
 rcases a.2 with⟨rfl,rfl⟩|⟨g,cap,cur,rfl,_,_,b,_⟩
 · simp[Builtin.append_,run_underlying d,sizeOf,typeInfo,hi,Builtin.lenOf,Builtin.firstCells]
 · simp[Builtin.append_,run_underlying d,sizeOf,typeInfo,hi,Builtin.lenOf,Builtin.firstCells,b,storeCells]
theorem qAS(base:Nat)(t ty e:TypeId)(z:Value)(size bytes:Nat)(E:P.underlying t=some (.slice e))
 (f:(P.info? e).map (fun i=>(i.zero,i.size,i.bytes))=some (some z,size,bytes)) (r:z.cells.size=size) (p:0<size)
 (v:Value) (n:Nat) (xs:List Value) (a:w.ownsRow base e size v n xs)
 (A:Option Addr) (m c:Nat) (news:List Value) (hr:Rd w A news) (hm:news.length=m*size) (F:∀u∈news,u.oneCell'=true)
 (b:(n+m)*bytes≤140737488355328) (x:n+m≤maxLen) (g:base≤w.heap.size):
 ∃o w',(Builtin.append_ #[t,t] ty #[v,.slice A m c]).run P w= .ok o w'∧w'.ownsRow base e size o (n+m) (xs++news)∧w.grownBy w' v.ownBlock∧
  (o.ownBlock=v.ownBlock∨o.ownBlock=some w.heap.size):=by
 obtain⟨i,hi,G,l,B⟩:=info_parts f;rcases A with _|ad
 · have hn:news=[]:=by
    rcases hr with h|⟨_,h,_⟩
    · exact h
    · cases h
   subst hn;have C:m=0:=by
    rcases Nat.eq_zero_or_pos m with h|h
    · exact h
    · have:=j6 h p
      simp at hm;omega
   subst C;exact⟨v,w,qti w base t ty e i size E hi v n xs a c,by simpa using a,World.grownBy.refl w _,.inl rfl⟩
 · have d:∀j u,news[j]? =some u→w.cell? (ad.add j)=some u:=by
    intro j u hu;obtain⟨H,h,I⟩:=hr.at_ hu;injection h with h
    subst h;exact I
   obtain⟨o,w',q,J,K,_,L⟩:=run_append_own_at (P:=P) w base t ty e i z size bytes E hi G l B r p v n xs a ad m c news hm d F x b g;exact⟨o,w',q,J,K,L⟩
theorem qBI{o:Oper}{a:Act}{K:Act→World→Prop}{Q:Exit→Act→World→Prop}(s x:Operand)(t:TypeId)
 (B:o.op= .call {callee:=.builtin .append,args:=#[s,x],argTypes:=#[t,t]})
 (base:Nat) (e:TypeId) (z:Value) (size bytes:Nat) (C:P.underlying t=some (.slice e))
 (d:(P.info? e).map (fun i=>(i.zero,i.size,i.bytes))=some (some z,size,bytes)) (p:z.cells.size=size) (q:0<size)
 (v:Value) (n:Nat) (xs:List Value) (hs:a.eval s=v) (j:w.ownsRow base e size v n xs)
 (A:Option Addr) (m c:Nat) (news:List Value) (E:a.eval x= .slice A m c) (hr:Rd w A news) (hm:news.length=m*size) (F:∀u∈news,u.oneCell'=true)
 (b:(n+m)*bytes≤140737488355328) (r:n+m≤maxLen) (f:base≤w.heap.size)
 (h:∀g w',w'.ownsRow base e size g (n+m) (xs++news)→w.grownBy w' v.ownBlock→(g.ownBlock=v.ownBlock∨g.ownBlock=some w.heap.size)→K (a.put o.dst g) w'):o.wp P a w K Q:=by
 obtain⟨g,w',l,G,H,I⟩:=qAS (P:=P) w base t o.type e z size bytes C d p q v n xs j A m c news hr hm F b r f;unfold Oper.wp execOp;simp only[B,resolve,invoke,builtin,Sem.run_bind,Sem.run_pure,Result.andThen_ok,vF,jm,jU,hs,E,l];exact h g w' G H I
theorem qu2{ops:Array Oper}{rest:List Oper}{o:Oper}{a:Act}{Q:Exit→Act→World→Prop}(l:Region.wanted o (yielded ops a.tmps)=true)(s x:Operand)(t:TypeId)
 (B:o.op= .call {callee:=.builtin .append,args:=#[s,x],argTypes:=#[t,t]})
 (base:Nat) (e:TypeId) (z:Value) (size bytes:Nat) (C:P.underlying t=some (.slice e))
 (d:(P.info? e).map (fun i=>(i.zero,i.size,i.bytes))=some (some z,size,bytes)) (p:z.cells.size=size) (q:0<size)
 (v:Value) (n:Nat) (xs:List Value) (hs:a.eval s=v) (j:w.ownsRow base e size v n xs)
 (A:Option Addr) (m c:Nat) (news:List Value) (E:a.eval x= .slice A m c) (hr:Rd w A news) (hm:news.length=m*size) (F:∀u∈news,u.oneCell'=true)
 (b:(n+m)*bytes≤140737488355328) (r:n+m≤maxLen) (f:base≤w.heap.size)
 (h:∀g w',w'.ownsRow base e size g (n+m) (xs++news)→w.grownBy w' v.ownBlock→(g.ownBlock=v.ownBlock∨g.ownBlock=some w.heap.size)→wpList P ops Q rest (a.put o.dst g) w'):wpList P ops Q (o::rest) a w:=
 qi5 l fun _ hK=>qBI w s x t B base e z size bytes C d p q v n xs hs j A m c news E hr hm F b r f fun g w' G H I=>hK _ _ (h g w' G H I)
end
theorem Ext.grN{W w w':World}(h:Ext W w)(a:w.grownBy w' none):Ext W w':=
 Below.grown h a h.size fun k b=>by cases b
theorem Ext.gr{base:Nat}{W w w':World}{e:TypeId}{size n:Nat}{v:Value}{xs:List Value}(h:Ext W w)(a:w.ownsRow base e size v n xs)(hb:W.heap.size≤base)(b:w.grownBy w' v.ownBlock):Ext W w':=
 Below.grown h b h.size fun k c=>by
  have:=(a.lt k c).1;omega
theorem qnD{w:World}{base:Nat}{e:TypeId}{size:Nat}{v:Value}{n:Nat}{xs:List Value}(h:w.ownsRow base e size v n xs):∃A c,v= .slice A n c:=by
 rcases h.2 with⟨a,b⟩|⟨g,cap,cur,d,_⟩
 subst b;exact⟨_,_,a⟩;exact⟨_,_,d⟩
theorem qsZ{P:Program}{w:World}(W:World){ops:Array Oper}{rest:List Oper}{o:Oper}{a:Act}{Q:Exit→Act→World→Prop}(g:Region.wanted o (yielded ops a.tmps)=true)(s x:Operand)(t:TypeId)
 (r:o.op= .call {callee:=.builtin .append,args:=#[s,x],argTypes:=#[t,t]})
 (e:TypeId) (z:Value) (size bytes:Nat) (B:P.underlying t=some (.slice e))
 (f:(P.info? e).map (fun i=>(i.zero,i.size,i.bytes))=some (some z,size,bytes)) (j:z.cells.size=size) (l:0<size) (p:Ext W w)
 (v:Value) (n:Nat) (xs:List Value) (hs:a.eval s=v) (d:w.ownsRow W.heap.size e size v n xs)
 (A:Option Addr) (m c:Nat) (news:List Value) (C:a.eval x= .slice A m c) (hr:Rd w A news) (hm:news.length=m*size) (E:∀u∈news,u.oneCell'=true)
 (b:(n+m)*bytes≤140737488355328) (F:n+m≤9223372036854775807)
 (h:∀A' c' w',w'.ownsRow W.heap.size e size (.slice A' (n+m) c') (n+m) (xs++news)→Ext W w'→wpList P ops Q rest (a.put o.dst (.slice A' (n+m) c')) w'):wpList P ops Q (o::rest) a w:=
 qu2 w g s x t r W.heap.size e z size bytes B f j l v n xs hs d A m c news C hr hm E b (by unfold maxLen;omega) p.size fun H w' q G _=>by
  obtain⟨A',c',rfl⟩:=qnD q;exact h A' c' w' q (p.gr d (jf _) G)
theorem qrK{P:Program}{w:World}(W:World){ops:Array Oper}{rest:List Oper}{o:Oper}{a:Act}{Q:Exit→Act→World→Prop}
 (r:Region.wanted o (yielded ops a.tmps)=true) (l c:Operand) (t:TypeId) (g:o.op=Op.makeSlice t l c)
 (e:TypeId) (z:Value) (size bytes:Nat) (u:P.underlying t=some (.slice e)) (b:(P.info? e).map (fun i=>(i.zero,i.size,i.bytes))=some (some z,size,bytes)) (m:Ext W w)
 (p q:IntKind) (C:Int) (n:Nat) (hl:a.eval l= .int p 0) (v:a.eval c= .int q C) (x:C=(n:Int)) (B:bytes*n≤281474976710656) (H:n≤9223372036854775807)
 (hK:∀A' w',w'.ownsRow W.heap.size e size (.slice A' 0 n) 0 []→Ext W w'→wpList P ops Q rest (a.put o.dst (.slice A' 0 n)) w'):
 wpList P ops Q (o::rest) a w:=by
 obtain⟨i,hi,E,d,h⟩:=info_parts b;subst h;refine qi5 r fun K j=>?_;obtain⟨w',f,F,G⟩:=run_make_own (P:=P) w W.heap.size t e i z size u hi E d p q n B (by unfold maxLen;omega) m.size;subst x;unfold Oper.wp;simp[execOp,g,hl,v,f,Result.andThen];exact j _ _ (hK _ w' F (m.grN G))
theorem Rd.new(w:World)(cs:Array Value)(t:TypeId):Rd (w.alloc (.cells cs t)) (some ⟨w.heap.size,0,none⟩) cs.toList:=by
 refine .inr ⟨_,rfl,fun j u hu=>?_⟩;have a:=heap_alloc_new w (.cells cs t);by_cases b:j=0;subst b;simp only[Addr.add,if_true];rw[cell_of_row _ _ _ _ _ _ a];simpa using hu;simp only[Addr.add,if_neg b,jc];rw[cell_of_row _ _ _ _ _ _ a];simpa using hu
theorem Rd.newAt(w:World)(g:Nat)(cs:Array Value)(t:TypeId)(a:w.heap.size=g):Rd (w.alloc (.cells cs t)) (some ⟨g,0,none⟩) cs.toList:=by
 subst a;exact Rd.new w cs t
theorem qrI(w:World)(a b:Array Value)(t c:TypeId)(n:Nat):Ext w (((w.alloc (.cells a t)).alloc (.cells b c)).drewN n)∧
 (∀j,(((w.alloc (.cells a t)).alloc (.cells b c)).drewN n).cell? ⟨w.heap.size,j,none⟩=a[j]?)∧(∀j,(((w.alloc (.cells a t)).alloc (.cells b c)).drewN n).cell? ⟨w.heap.size+1,j,none⟩=b[j]?):=by
 refine⟨(((Ext.rfl' w).al _).al _).drN _,fun j=>?_,fun j=>?_⟩
 · show((w.alloc (.cells a t)).alloc (.cells b c)).cell? _=_
   rw[World.cell?_alloc_past _ _ _ og,cell_of_row _ _ _ _ _ _ (heap_alloc_new w _)]
 · show((w.alloc (.cells a t)).alloc (.cells b c)).cell? _=_
   have h:=heap_alloc_new (w.alloc (.cells a t)) (.cells b c);simp only[World.size_alloc]at h;rw[cell_of_row _ _ _ _ _ _ h]
def Ret(w:World)(R:Value→World→Prop)(e:Ending)(w':World):Prop:=∃v,e= .returned v∧R v w'∧Ext w w'
theorem Ret.mk{w w':World}{R:Value→World→Prop}{v:Value}(h:R v w')(he:Ext w w'):Ret w R (.returned v) w':=⟨v,rfl,h,he⟩
def zbE(base:Nat)(e:TypeId)(size n:Nat)(xs:List Value)(v:Value)(w':World):Prop:=∃A c,v= .slice A n c∧w'.ownsRow base e size (.slice A n c) n xs
theorem zbE.mk{base:Nat}{e:TypeId}{size n n':Nat}{xs xs':List Value}{A:Option Addr}{c:Nat}{w':World}(h:w'.ownsRow base e size (.slice A n c) n xs)(a:xs=xs')(hn:n=n'):zbE base e size n' xs' (.slice A n c) w':=by
 subst a hn;exact⟨A,c,rfl,h⟩
def Is(u:Value)(v:Value)(_:World):Prop:=v=u
def subA(A:Option Addr)(c l s:Nat):Option Addr:=if c=l then A else A.map (·.add (l*s))
theorem Rd.take{w:World}{A:Option Addr}{xs:List Value}(h:Rd w A xs)(k:Nat):Rd w A (xs.take k):=by
 rcases h with rfl|⟨ad,a,b⟩
 exact .inl og;refine .inr ⟨ad,a,fun j u hu=>b j u ?_⟩;rw[jZ]at hu;split at hu
 exact hu;cases hu
theorem Rd.sub{w:World}{A:Option Addr}{xs:List Value}(h:Rd w A xs){c s:Nat}(l:Nat)(hl:xs.length≤c*s):Rd w (subA A c l s) (xs.drop (l*s)):=by
 unfold subA;split
 rename_i a
 subst a;exact .inl (vo hl);rcases h with rfl|⟨ad,rfl,b⟩
 exact .inl og;refine .inr ⟨ad.add (l*s),rfl,fun j u hu=>?_⟩;rw[qul];exact b _ u (by rw[←hu,List.getElem?_drop])
section
variable{P:Program}(w:World)
theorem qAd(t e:TypeId)(s:Nat)(g:P.underlying t=some (.slice e))(a:(P.info? e).map (fun i=>i.size)=some s)(A:Option Addr)(n c l h:Nat)(lo hi:Option Value)
 (d:lo=some (.int .i64 (l:Int))∨(lo=none∧l=0)) (f:hi=some (.int .i64 (h:Int))∨(hi=none∧h=n)) (m:l≤h) (o:h≤c):
 (Instr.sliceAt t (.slice A n c) lo hi none).run P w= .ok (.slice (subA A c l s) (h-l) (c-l)) w:=by
 obtain⟨i,j,hs⟩:=jC.1 a;have he:P.elem t=e:=by unfold Program.elem;rw[g]
 have b:P.underlying t=some (.slice (P.elem t)):=by rw[he];exact g
 have p:(0:Int)≤l:=by omega
 have q:(0:Int)≤h:=by omega
 have r:(l:Int)≤h:=by omega
 have u:(h:Int)≤c:=by omega
 rw[run_sliceAt_slice w t _ lo hi none b];rcases d with rfl|⟨rfl,rfl⟩<;>rcases f with rfl|⟨rfl,rfl⟩<;>
  simp[run_slice_any w t A _ c b,Instr.sliceBounds,run_sliceBound, *,sizeOf,typeInfo,sliced,subA,Result.andThen]
theorem qvd{ops:Array Oper}{rest:List Oper}{o:Oper}{a:Act}{Q:Exit→Act→World→Prop}(d:Region.wanted o (yielded ops a.tmps)=true)(x:Operand)(lo hi:Option Operand)(t:TypeId)
 (m:o.op= .slice t x lo hi none) (e:TypeId) (s:Nat) (p:P.underlying t=some (.slice e)) (b:(P.info? e).map (fun i=>i.size)=some s) (A:Option Addr) (n c l h:Nat)
 (q:a.eval x= .slice A n c) {L H:Int} (f:(lo.map a.eval=some (.int .i64 L)∧L=(l:Int))∨(lo.map a.eval=none∧l=0)) (g:(hi.map a.eval=some (.int .i64 H)∧H=(h:Int))∨(hi.map a.eval=none∧h=n)) (r:l≤h) (u:h≤c)
 (hK:wpList P ops Q rest (a.put o.dst (.slice (subA A c l s) (h-l) (c-l))) w):wpList P ops Q (o::rest) a w:=
 qi5 d fun K j=>by
  have hr:=qAd (P:=P) w t e s p b A n c l h _ _ (f.imp (fun x=>by rw[x.1,x.2]) id) (g.imp (fun x=>by rw[x.1,x.2]) id) r u;unfold Oper.wp;simp[execOp,m,q,hr,Result.andThen];exact j _ _ hK
end
inductive T where
 |mk (k i:Int) (s:ByteArray) (ar:List T)
def T.k:T→Int|.mk k _ _ _=>k
def T.i:T→Int|.mk _ i _ _=>i
def T.s:T→ByteArray|.mk _ _ s _=>s
def T.ar:T→List T|.mk _ _ _ ar=>ar
def I64(n:Int):Prop:= -9223372036854775808≤n∧n<9223372036854775808
structure Fit(k i:Int)(s:ByteArray)(n c:Nat):Prop where
 k:I64 k
 i:I64 i
 s:s.size≤9223372036854775807
 n:n≤c
 c:c≤9223372036854775807
mutual
def CT(w:World):T→List Value→Prop |.mk k i s ar,cs=>∃A c xs,cs=[.int .i64 k,.int .i64 i,.string s,.slice A ar.length c]∧Fit k i s ar.length c∧Rd w A xs∧CL w ar xs
def CL(w:World):List T→List Value→Prop |[],xs=>xs=[] |t::ts,xs=>∃cs ys,xs=cs++ys∧CT w t cs∧CL w ts ys
end
def SlT(w:World)(ts:List T)(v:Value):Prop:=∃A c xs,v= .slice A ts.length c∧ts.length≤c∧c≤9223372036854775807∧Rd w A xs∧CL w ts xs
def VT(w:World)(t:T)(v:Value):Prop:=∃cs,v= .agg cs.toArray∧CT w t cs
mutual
theorem CT.ext{w w':World}(e:Ext w w'):∀{t:T}{cs:List Value},CT w t cs→CT w' t cs
 |.mk k i s ar,cs,h=>by
  simp only[CT]at h⊢;obtain⟨A,c,xs,a,b,d,f⟩:=h;exact⟨A,c,xs,a,b,d.ext e,CL.ext e f⟩
theorem CL.ext{w w':World}(e:Ext w w'):∀{ts:List T}{xs:List Value},CL w ts xs→CL w' ts xs
 |[],xs,h=>by simpa only[CL]using h
 |t::ts,xs,h=>by
  simp only[CL]at h⊢;obtain⟨cs,ys,a,b,c⟩:=h;exact⟨cs,ys,a,CT.ext e b,CL.ext e c⟩
end
theorem CT.len{w:World}{t:T}{cs:List Value}(h:CT w t cs):cs.length=4:=by
 cases t;simp only[CT]at h;obtain⟨A,c,xs,rfl,_⟩:=h;rfl
theorem CL.nil(w:World):CL w [] []:=by simp only[CL]
theorem CL.cons{w:World}{t:T}{ts:List T}{cs ys:List Value}(a:CT w t cs)(b:CL w ts ys):CL w (t::ts) (cs++ys):=by
 simp only[CL];exact⟨cs,ys,rfl,a,b⟩
theorem CL.single{w:World}{t:T}{cs:List Value}(a:CT w t cs):CL w [t] cs:=by
 simpa using CL.cons a (CL.nil w)
theorem CL.get{w:World}:∀{ts:List T}{xs:List Value}{i:Nat}{t:T},CL w ts xs→ts[i]? =some t→∃cs,CT w t cs∧∀j,j<4→xs[i*4+j]? =cs[j]?
 |[],xs,i,t,h,hi=>by simp at hi
 |u::ts,xs,0,t,h,hi=>by
  simp only[CL]at h;obtain⟨cs,ys,rfl,a,b⟩:=h;simp at hi;subst hi;refine⟨cs,a,fun j c=>?_⟩;rw[Nat.zero_mul,jc,j3 (by rw[a.len];omega)]
 |u::ts,xs,i+1,t,h,hi=>by
  simp only[CL]at h;obtain⟨cs,ys,rfl,a,b⟩:=h;simp at hi;obtain⟨ds,d,e⟩:=CL.get b hi;refine⟨ds,d,fun j c=>?_⟩;rw[vP (by rw[a.len];omega),a.len,←e j c];congr 1
  omega
theorem SlT.ext{w w':World}{ts:List T}{v:Value}(h:SlT w ts v)(e:Ext w w'):SlT w' ts v:=by
 obtain⟨A,c,xs,a,b,d,f,g⟩:=h;exact⟨A,c,xs,a,b,d,f.ext e,g.ext e⟩
theorem VT.ext{w w':World}{t:T}{v:Value}(h:VT w t v)(e:Ext w w'):VT w' t v:=by
 obtain⟨cs,a,b⟩:=h;exact⟨cs,a,b.ext e⟩
theorem VT.open_{w:World}{t:T}{v:Value}(h:VT w t v):∃sl,v= .agg #[.int .i64 t.k,.int .i64 t.i,.string t.s,sl]∧SlT w t.ar sl∧I64 t.k∧I64 t.i∧t.s.size≤9223372036854775807:=by
 obtain⟨cs,rfl,h⟩:=h;cases t;simp only[CT]at h;obtain⟨A,c,xs,rfl,a,b,d⟩:=h;exact⟨_,rfl,⟨A,c,xs,rfl,a.n,a.c,b,d⟩,a.k,a.i,a.s⟩
theorem VT.ct{w:World}{t:T}{cs:Array Value}(h:VT w t (.agg cs)):CT w t cs.toList:=by
 obtain⟨ds,a,b⟩:=h;injection a with a
 subst a;simpa using b
theorem qsr{w:World}{a:Addr}{v:Value}(h:w.cell? a=some v):a.spot=none:=by
 unfold World.cell? at h;split at h
 split at h
 cases h;rename_i hs;simpa using hs
 cases h
theorem quC(b o k:Nat):(⟨b,o,none⟩:Addr).add k=⟨b,o+k,none⟩:=by
 unfold Addr.add;split;rename_i h;simp[h]
 rfl
theorem SlT.at_{w:World}{ts:List T}{A:Option Addr}{n c:Nat}(h:SlT w ts (.slice A n c)){i:Nat}{t:T}(hi:ts[i]? =some t):
 ∃b o sl,A=some ⟨b,o,none⟩∧w.cell? ⟨b,o+i*4,none⟩=some (.int .i64 t.k)∧w.cell? ⟨b,o+i*4+1,none⟩=some (.int .i64 t.i)∧w.cell? ⟨b,o+i*4+2,none⟩=some (.string t.s)∧w.cell? ⟨b,o+i*4+3,none⟩=some sl∧
  SlT w t.ar sl∧VT w t (.agg #[.int .i64 t.k,.int .i64 t.i,.string t.s,sl]):=by
 obtain⟨A',c',xs,l,F,G,q,r⟩:=h;injection l with l _ _
 subst l;obtain⟨cs,v,f⟩:=r.get hi;have p:VT w t (.agg cs.toArray):=⟨cs,rfl,v⟩
 obtain⟨sl,e,hs,_⟩:=p.open_;injection e with e
 have x:cs=[.int .i64 t.k,.int .i64 t.i,.string t.s,sl]:=by simpa using e
 subst x;have m:xs[i*4+0]? =some (.int .i64 t.k):=by rw[f 0 oa];rfl
 have z:xs[i*4+1]? =some (.int .i64 t.i):=by rw[f 1 oa];rfl
 have B:xs[i*4+2]? =some (.string t.s):=by rw[f 2 oa];rfl
 have C:xs[i*4+3]? =some sl:=by rw[f 3 oa];rfl
 rcases q with rfl|⟨ad,rfl,a⟩
 · simp at m
 · have hl:0<xs.length:=by
    have:=(jd.1 m).1;omega
   have d:ad.spot=none:=by
    have E:=a 0 _ (jj hl);have:=qsr E;simpa[Addr.add]using this
   obtain⟨b,o,sp⟩:=ad;simp only at d;subst d;have g:=fun j u h=>a (i*4+j) u h;simp only[quC,←jS]at g;exact⟨b,o,sl,rfl,g 0 _ m,g 1 _ z,g 2 _ B,g 3 _ C,hs,p⟩
end Go.Proofs.YtgcegilpajfdhaaGreat
namespace Go.Proofs.YtgcegilpajfdhaaGreat
open Go.Proofs.Tryz
set_option maxRecDepth 100000
open Go.ChangeShapes Go.WideShapes Go.RowKit
structure Lay(α:Type) where
 C:World→α→List Value→Prop
 n:Nat
 pos:0<n
 ext:∀{w w':World}{a:α}{cs:List Value},C w a cs→Ext w w'→C w' a cs
 len:∀{w:World}{a:α}{cs:List Value},C w a cs→cs.length=n
 one:∀{w:World}{a:α}{cs:List Value},C w a cs→∀u∈cs,u.oneCell'=true
namespace Lay
variable{α:Type}(L:Lay α)
def Ls(w:World):List α→List Value→Prop |[],xs=>xs=[] |a::l,xs=>∃cs ys,xs=cs++ys∧L.C w a cs∧Ls w l ys
variable{L}
theorem Ls.nil(w:World):L.Ls w [] []:=rfl
theorem Ls.cons{w:World}{a:α}{l:List α}{cs ys:List Value}(b:L.C w a cs)(c:L.Ls w l ys):L.Ls w (a::l) (cs++ys):=⟨cs,ys,rfl,b,c⟩
theorem Ls.single{w:World}{a:α}{cs:List Value}(b:L.C w a cs):L.Ls w [a] cs:=by simpa using Ls.cons b (Ls.nil w)
theorem Ls.len{w:World}:∀{l:List α}{xs:List Value},L.Ls w l xs→xs.length=l.length*L.n
 |[],xs,h=>by have h:xs=[]:=h;simp[h]
 |a::l,xs,⟨cs,ys,b,c,d⟩=>by subst b;rw[ja,L.len c,Ls.len d,jg,jE,vx];omega
theorem Ls.app{w:World}:∀{l m:List α}{xs ys:List Value},L.Ls w l xs→L.Ls w m ys→L.Ls w (l++m) (xs++ys)
 |[],m,xs,ys,h,k=>by have h:xs=[]:=h;subst h;simpa using k
 |a::l,m,xs,ys,⟨cs,zs,b,c,d⟩,k=>by
  subst b;rw[jy,jo];exact Ls.cons c (Ls.app d k)
section
variable{H:Type}{enc:TypeId×Value→H}{W:World}{base:Nat}{sp:Nat→Bool}{hd:Bool}
end
end Lay
end Go.Proofs.YtgcegilpajfdhaaGreat
namespace Go.Proofs.YtgcegilpajfdhaaGreat
open Go.Proofs.Tryz
set_option maxRecDepth 100000
open Go.ChangeShapes Go.WideShapes Go.ChangeAt Go.RowKit
theorem qDc:laidOutB prog=true:=by kernel_rfl
theorem qlx{H:Type}{enc:TypeId×Value→H}{P:Program}(hl:laidOutB P=true){W f:World}(hb:Ext W f):∀{ts:List TypeId}{a:List Value}{ds:List (DataW H)}{ps:List MemPlace},
 (∀t∈ts,P.readableRec t=true∧t<P.types.size)→(∀x∈ps,x.block<W.heap.size)→DataW.TrodAll enc P W 0 (fun _=>true) true ts a ds ps→DataW.TrodAll enc P f 0 (fun b=>decide (b<W.heap.size)) true ts a ds ps
 |[],[],[],_,_,_,h=>h
 |t::ts,v::a,d::ds,ps,c,hlt,h=>by
  obtain⟨p,q,g,j,rfl⟩:=h;refine⟨p,q,?_,?_,rfl⟩;exact Below.trod hl (c t (je)).1 (c t (je)).2 g hb fun x e=>hlt x (jz _ e);exact qlx hl hb (fun l m=>c l (jp _ m)) (fun x e=>hlt x (jB _ e)) j
 |[],[],_::_,_,_,_,h=>h.elim
 |[],_::_,_,_,_,_,h=>h.elim
 |_::_,[],_,_,_,_,h=>h.elim
 |_::_,_::_,[],_,_,_,h=>h.elim
theorem qoc{H:Type}{enc:TypeId×Value→H}{P:Program}{W:World}{base:Nat}{sp:Nat→Bool}{hd:Bool}:∀{ts:List TypeId}{a:List Value}{ds:List (DataW H)}{ps:List MemPlace},DataW.TrodAll enc P W base sp hd ts a ds ps→ds.length=ts.length
 |[],[],[],_,_=>rfl
 |_::_,_::_,_::_,_,h=>by
  obtain⟨_,_,_,b,_⟩:=h;simp[qoc b]
 |[],[],_::_,_,h=>h.elim
 |[],_::_,_,_,h=>h.elim
 |_::_,[],_,_,h=>h.elim
 |_::_,_::_,[],_,h=>h.elim
end Go.Proofs.YtgcegilpajfdhaaGreat
namespace Go.Proofs.YtgcegilpajfdhaaGreat
open Go.Proofs.Tryz
set_option maxRecDepth 100000
open Go.RowKit
section
variable{P:Program}{ops:Array Oper}{C:World→Prop}{md:Region.Mode}
def SQ(C:World→Prop)(K:Act→World→Prop):Exit→Act→World→Prop |.normal,a,w=>C w∧K a w |_,_,_=>False
theorem SQ.mk{K:Act→World→Prop}{a:Act}{w:World}(b:C w)(h:K a w):SQ C K .normal a w:=⟨b,h⟩
def YC(P:Program)(ops:Array Oper)(C:World→Prop)(o:Oper)(v:Value)(a:Act):Prop:=(Region.wanted o (yielded ops a.tmps)=true∧∀w,C w→(execOp a.eval o).run P w= .ok (.value v) w)∨(Region.wanted o (yielded ops a.tmps)=false∧v=undef)
def opC(P:Program)(ops:Array Oper)(C:World→Prop)(i:Nat)(K:Act→World→Prop)(a:Act)(w:World):Prop:=match ops[i]? with |none=>K a w |some o=>if Region.wanted o (yielded ops a.tmps)then o.wp P a w (fun a w=>C w∧K a w) (fun _ _ _=>False)else K (a.put o.dst undef) w
def anyC(P:Program)(md:Region.Mode)(ops:Array Oper)(C:World→Prop)(Q:Act→World→Prop):Nat→Array Bool→Act→World→Prop |0,b,a,w=>Region.ready md ops b=[]∧Q a w |fuel+1,b,a,w=>(Region.ready md ops b=[]→Q a w)∧∀i∈Region.ready md ops b,opC P ops C i (anyC P md ops C Q fuel (b.setIfInBounds i true)) a w
theorem quh{i:Nat}{a:Act}{w:World}{K f:Act→World→Prop}(hw:C w)(h:∀a w,C w→K a w→f a w)(b:opC P ops C i K a w):opC P ops C i f a w:=by
 unfold opC at*;split
 rename_i d;simp only[d]at b;exact h _ _ hw b
 rename_i o d
 simp only[d]at b;split
 rename_i c;simp only[c,if_true]at b;exact Oper.wp_mono (fun a w e=>⟨e.1,h a w e.1 e.2⟩) b
 rename_i c;simp only[c]at b;exact h _ _ hw b
theorem qA1{o:Oper}{a:Act}{w:World}{K:Act→World→Prop}{Q:Exit→Act→World→Prop}(h:o.wp P a w K (fun _ _ _=>False)):o.wp P a w K Q:=by
 unfold Oper.wp at*;generalize (execOp a.eval o).run P w=r at*;cases r with
 |ok n w'=>
  cases n<;>simp only[Oper.upon]at h⊢<;>first|exact h|skip
  refine Calls.mono h fun e b he=>?_;cases e with
  |returned u=>exact he
  |panicked c=>exact he.elim
  |outgrown=>obtain⟨_,_,d⟩:=he;exact d.elim
 |halt x w'=>cases x<;>simp only[Oper.upon]at h⊢
theorem qiX{Q:Exit→Act→World→Prop}:∀(fuel:Nat)(b:Array Bool)(a:Act)(w:World),anyC P md ops C (fun a w=>Q .normal a w) fuel b a w→wpAny P md ops Q fuel b a w
 |0,_,_,_,h=>h
 |fuel+1,b,a,w,h=>⟨h.1,fun i hi=>by
  have c:=h.2 i hi;unfold opC at c;unfold wpOp;split
  rename_i d;simp only[d]at c;exact qiX fuel _ _ _ c
  rename_i o d
  simp only[d]at c;split
  rename_i hw
  simp only[hw,if_true]at c;exact .inl (qA1 (Oper.wp_mono (fun a w e=>qiX fuel _ _ _ e.2) c));rename_i hw
  simp only[hw]at c;exact qiX fuel _ _ _ c⟩
theorem YC.opC{i:Nat}{o:Oper}{v:Value}{a:Act}(hi:ops[i]? =some o)(hy:YC P ops C o v a){K:Act→World→Prop}{w:World}(b:C w)(h:K (a.put o.dst v) w):opC P ops C i K a w:=by
 unfold Go.Proofs.YtgcegilpajfdhaaGreat.opC;simp only[hi];rcases hy with⟨hw,c⟩|⟨hw,rfl⟩
 simp only[hw,if_true,Oper.wp,c w b,Oper.upon];exact⟨b,h⟩;simp only[hw,va,if_false];exact h
theorem YC.of_same{o:Oper}{v:Value}{a b:Act}(hy:YC P ops C o v a)(he:execOp b.eval o=execOp a.eval o)
 (hw:Region.wanted o (yielded ops b.tmps)=Region.wanted o (yielded ops a.tmps)):YC P ops C o v b:=by
 unfold YC at*;rw[he,hw];exact hy
theorem qz0{j:Nat}{g l:Oper}{v:Value}(F:ops[j]? =some l)(p:g.apart ops l=true)
 (q:∀cs b,g.op≠.select cs b) (t:∀cs b,l.op≠.select cs b) {K:Act→World→Prop} {a:Act} {w:World}
 (hy:YC P ops C g v a) (h:opC P ops C j K (a.put g.dst v) w):opC P ops C j (fun A w'=>YC P ops C g v A∧K (A.put g.dst v) w') a w:=by
 obtain⟨B,o,E⟩:=Oper.apart_spec p;have keep:∀(a:Act),YC P ops C g v a→∀u,YC P ops C g v (a.put l.dst u):=fun a hy u=>
  hy.of_same (execOp_put g q a l.dst u E) (wanted_put g a l.dst u E)
 have m:∀d,YC P ops C g v {a with defers:=d::a.defers}:=fun d=>hy.of_same rfl rfl;unfold opC at*;simp only[F]at*;rw[wanted_put l a g.dst v B]at h;split
 · rename_i hw
   simp only[hw,if_true]at h;unfold Oper.wp at*;rw[execOp_put l t a g.dst v B]at h;generalize (execOp a.eval l).run P w=r at*;cases r with
   |ok n w'=>
    cases n<;>simp only[Oper.upon]at h⊢
    case value u=>exact⟨h.1,keep a hy u,by rw[←Act.put_comm a v u o];exact h.2⟩
    case skip=>exact⟨h.1,keep a hy _,by rw[←Act.put_comm a v undef o];exact h.2⟩
    case defer d=>
     refine⟨h.1,keep _ (m d) _,?_⟩;rw[←Act.put_comm _ v undef o,←Act.put_defers];exact h.2
    case enter f args=>
     refine Calls.mono h fun e z he=>?_;cases e with
     |returned u=>exact⟨he.1,keep a hy u,by rw[←Act.put_comm a v u o];exact he.2⟩
     |panicked c=>exact he
     |outgrown=>exact he
    case row row args=>exact Rows.mono h fun u z he=>⟨he.1,keep a hy u,by rw[←Act.put_comm a v u o];exact he.2⟩
   |halt x w'=>cases x<;>simp only[Oper.upon]at h⊢
 · rename_i hw
   simp only[hw]at h;exact⟨keep a hy _,by rw[←Act.put_comm a v undef o];exact h⟩
theorem qu1{Q:Act→World→Prop}{i:Nat}{r:Oper}{v:Value}(hi:ops[i]? =some r)(l:∀(j:Nat)(o:Oper) cs b,ops[j]? =some o→o.op≠.select cs b):
 ∀(fuel:Nat)(c:Array Bool)(a:Act)(w:World),
  (∀j n,ops[j]? =some n→j≠i→c.getD j true=false→(∀e∈n.after,Region.binds md e=true→e.on≠i)→r.apart ops n=true)→
  i∈Region.ready md ops c→YC P ops C r v a→C w→
  anyC P md ops C Q fuel (c.setIfInBounds i true) (a.put r.dst v) w→anyC P md ops C Q (fuel+1) c a w:=by
 intro fuel;induction fuel with
 |zero=>
  intro c a w _ hr hy A H;refine⟨fun h=>(by rw[h]at hr;cases hr),fun j B=>?_⟩;by_cases d:j=i;subst d;exact hy.opC hi A H;have:=ready_mono B d;rw[H.1]at this;cases this
 |succ fuel L=>
  intro c a w f hr hy A H;refine⟨fun h=>(by rw[h]at hr;cases hr),fun j B=>?_⟩;by_cases d:j=i;subst d;exact hy.opC hi A H;have p:=H.2 j (ready_mono B d);obtain⟨m,n,q,t⟩:=mem_ready.1 B;have u:∀e∈n.after,Region.binds md e=true→e.on≠i:=fun e he hb heq=>by
   have p:=t e he hb;have J:=(mem_ready.1 hr).1;rw[heq]at p;rcases Jj i c.size with E|E
   simp[E]at J p;rw[J]at p;cases p;simp[Array.getElem?_eq_none E]at p
  have M:=qz0 q (f j n q d m u) (fun cs b=>l i r cs b hi) (fun cs b=>l j n cs b q) hy p;have g:∀k ok,ops[k]? =some ok→k≠i→(c.setIfInBounds j true).getD k true=false→
   (∀e∈ok.after,Region.binds md e=true→e.on≠i)→r.apart ops ok=true:=fun k ok N F x G=>by
   refine f k ok N F ?_ G;by_cases z:j=k
   · subst z;exact m
   · rw[getD_set_ne true z]at x;exact x
  refine quh A (fun O w' I K=>L (c.setIfInBounds j true) O w' g (ready_mono hr (Ne.symm d)) K.1 I ?_) M;rw[Array.setIfInBounds_comm _ _ d];exact K.2
def yY(md:Region.Mode)(ops:Array Oper):List (Nat×Bool)→Array Bool→Bool |[],a=>Region.ready md ops a==[] |(i,q)::rest,a=>(if q then(Region.ready md ops a).contains i&&Region.free md ops a i else Region.ready md ops a==[i])&&yY md ops rest (a.setIfInBounds i true)
def zcq(md:Region.Mode)(ops:Array Oper)(ord:List (Nat×Bool)):Bool:=Region.noSelect ops&&ord.length==ops.size&&yY md ops ord (Array.replicate ops.size false)
def wpS(P:Program)(ops:Array Oper)(C:World→Prop)(Q:Act→World→Prop):List (Nat×Bool)→Act→World→Prop |[],a,w=>Q a w |(i,q)::rest,a,w=>match ops[i]? with |none=>wpS P ops C Q rest a w |some o=>if q then∃v,YC P ops C o v a∧wpS P ops C Q rest (a.put o.dst v) w else opC P ops C i (wpS P ops C Q rest) a w
theorem qkI{Q:Act→World→Prop}(hs:Region.noSelect ops=true):∀(ord:List (Nat×Bool))(b:Array Bool)(a:Act)(w:World),yY md ops ord b=true→C w→
 wpS P ops C Q ord a w→anyC P md ops C Q ord.length b a w
 |[],b,a,w,d,_,h=>⟨by simpa[yY]using d,h⟩
 |(i,q)::rest,b,a,w,d,f,h=>by
  simp only[yY,jk]at d;obtain⟨e,m⟩:=d;cases q with
  |true=>
   simp only[if_true,jk]at e;have hr:i∈Region.ready md ops b:=by simpa using e.1
   obtain⟨_,o,c,_⟩:=mem_ready.1 hr;simp only[wpS,c,if_true]at h;obtain⟨v,hy,g⟩:=h;exact qu1 c (Region.noSelect_spec hs) rest.length b a w (Region.free_spec c e.2) hr hy f (qkI hs rest _ _ _ m f g)
  |false=>
   have hr:Region.ready md ops b=[i]:=by simpa using e
   have hm:i∈Region.ready md ops b:=by rw[hr];simp
   obtain⟨_,o,c,_⟩:=mem_ready.1 hm;simp only[wpS,c,va,if_false]at h;refine⟨fun n=>(by rw[hr]at n;cases n),fun j p=>?_⟩;rw[hr]at p;obtain rfl:j=i:=by simpa using p
   exact quh f (fun r w' l g=>qkI hs rest _ _ _ m l g) h
theorem qdr{id:Nat}{Q:Exit→Act→World→Prop}{a:Act}{w:World}{l:List Oper}(ord:List (Nat×Bool))(hm:P.follows .mixedOrders=true)(b:zcq .any l.toArray ord=true)(C:World→Prop)(d:C w.drew)
 (h:wpS P l.toArray C (fun a w=>Q .normal a w) ord a w.drew):(Code.region id l.toArray true).wp P Q a w:=by
 simp only[zcq,jk,beq_iff_eq]at b;obtain⟨⟨e,c⟩,f⟩:=b;refine wp_region_any hm (qiX (C:=C) _ _ _ _ ?_);rw[←c];exact qkI e ord _ a w.drew (by rw[c];exact f) d h
theorem sE{Q:Act→World→Prop}{a:Act}{w:World}(h:Q a w):wpS P ops C Q [] a w:=h
theorem sQ{l:List Oper}{Q:Act→World→Prop}{i:Nat}{o:Oper}{rest:List (Nat×Bool)}{a:Act}{w:World}(b:l[i]? =some o)(hw:Region.wanted o (yielded l.toArray a.tmps)=true)(v:Value)
 (c:∀w',C w'→(execOp a.eval o).run P w'= .ok (.value v) w') (h:wpS P l.toArray C Q rest (a.put o.dst v) w):wpS P l.toArray C Q ((i,true)::rest) a w:=by
 have hi:l.toArray[i]? =some o:=by simpa using b
 simp only[wpS,hi,if_true];exact⟨v,.inl ⟨hw,c⟩,h⟩
theorem sN{l:List Oper}{Q:Act→World→Prop}{i:Nat}{o:Oper}{rest:List (Nat×Bool)}{a:Act}{w:World}(b:l[i]? =some o)(hw:Region.wanted o (yielded l.toArray a.tmps)=false)
 (h:wpS P l.toArray C Q rest (a.put o.dst undef) w):wpS P l.toArray C Q ((i,true)::rest) a w:=by
 have hi:l.toArray[i]? =some o:=by simpa using b
 simp only[wpS,hi,if_true];exact⟨undef,.inr ⟨hw,rfl⟩,h⟩
theorem sL{l:List Oper}{Q:Act→World→Prop}{i:Nat}{o:Oper}{rest:List (Nat×Bool)}{a:Act}{w:World}(b:l[i]? =some o)(hw:Region.wanted o (yielded l.toArray a.tmps)=true)
 (h:wpList P l.toArray (SQ C (wpS P l.toArray C Q rest)) [o] a w):wpS P l.toArray C Q ((i,false)::rest) a w:=by
 have hi:l.toArray[i]? =some o:=by simpa using b
 simp only[wpS,hi,va,if_false,opC,hw,if_true];simp only[wpList,hw,if_true]at h;have hl:o.wp P a w (fun a w=>C w∧wpS P l.toArray C Q rest a w) (SQ C (wpS P l.toArray C Q rest)):=by
  rcases h with h|⟨_,_,_,c⟩
  exact h;exact c.elim
 unfold Oper.wp at*;generalize (execOp a.eval o).run P w=r at*;cases r with
 |ok n w'=>
  cases n<;>simp only[Oper.upon]at hl⊢<;>exact hl
 |halt x w'=>cases x<;>simp only[Oper.upon]at hl⊢<;>exact hl
theorem sM{l:List Oper}{Q:Act→World→Prop}{i:Nat}{o:Oper}{rest:List (Nat×Bool)}{a:Act}{w:World}(b:l[i]? =some o)(hw:Region.wanted o (yielded l.toArray a.tmps)=false)
 (h:wpS P l.toArray C Q rest (a.put o.dst undef) w):wpS P l.toArray C Q ((i,false)::rest) a w:=by
 have hi:l.toArray[i]? =some o:=by simpa using b
 simp only[wpS,hi,va,if_false,opC,hw];exact h
end
end Go.Proofs.YtgcegilpajfdhaaGreat
namespace Go.Proofs.YtgcegilpajfdhaaGreat
open Go.Proofs.Tryz
set_option maxRecDepth 100000
mutual
def wt:T→Nat |.mk _ _ _ ar=>1+wtL ar
def wtL:List T→Nat |[]=>0 |t::ts=>wt t+wtL ts
end
def T.used(t:T):List T:=if t.k=2 then t.ar else[]
mutual
def z8:T→Nat |.mk k _ _ ar=>1+if k=2 then zC ar else 0
def zC:List T→Nat |[]=>0 |t::ts=>z8 t+zC ts
end
mutual
def yi:T→Nat |.mk k _ _ ar=>(if k=2 then zI ar else 0)+1
def zI:List T→Nat |[]=>0 |t::ts=>max (yi t) (zI ts)
end
theorem qd4(t:T):wt t=1+wtL t.ar:=by cases t;simp[wt,T.ar]
theorem qf2(t:T):z8 t=1+zC t.used:=by cases t;simp only[z8,T.used,T.ar,T.k];split<;>rename_i h<;>simp[zC,h]
theorem qgf(t:T):yi t=zI t.used+1:=by cases t;simp only[yi,T.used,T.ar,T.k];split<;>rename_i h<;>simp[zI,h]
theorem qkL(a b:List T):wtL (a++b)=wtL a+wtL b:=by
 induction a with
 |nil=>simp[wtL]
 |cons t a c=>simp only[jy,wtL,c];omega
theorem qjq(a b:List T):zC (a++b)=zC a+zC b:=by
 induction a with
 |nil=>simp[zC]
 |cons t a c=>simp only[jy,zC,c];omega
theorem qmc(a b:List T):zI (a++b)=max (zI a) (zI b):=by
 induction a with
 |nil=>simp[zI]
 |cons t a c=>simp only[jy,zI,c];omega
theorem qdT{t:T}:∀{l:List T},t∈l→wt t≤wtL l
 |u::l,h=>by
  simp only[wtL];rcases jx.1 h with rfl|h
  omega;have:=qdT h;omega
theorem qql(t:T):wtL t.used≤wtL t.ar:=by unfold T.used;split<;>simp[wtL]
theorem qDj{t u:T}(h:u∈t.ar):wt u<wt t:=by
 have:=qdT h;rw[qd4 t];omega
theorem qhw:∀l:List T,l.length≤wtL l
 |[]=>by simp
 |t::l=>by
  simp only[wtL,jg];have:=qhw l;rw[qd4 t];omega
mutual
theorem qqJ:∀t:T,z8 t≤wt t
 |.mk k i s ar=>by
  simp only[z8,wt];have:=qm5 ar;split<;>omega
theorem qm5:∀l:List T,zC l≤wtL l
 |[]=>by simp[zC]
 |t::l=>by
  simp only[zC,wtL];have:=qqJ t;have:=qm5 l;omega
end
mutual
theorem quI:∀t:T,yi t≤wt t
 |.mk k i s ar=>by
  simp only[yi,wt];have:=qlb ar;split<;>omega
theorem qlb:∀l:List T,zI l≤wtL l
 |[]=>by simp[zI]
 |t::l=>by
  simp only[zI,wtL];have:=quI t;have:=qlb l;omega
end
theorem qfv{l:List T}{k:Nat}{t:T}(h:l[k]? =some t):l.take (k+1)=l.take k++[t]:=by
 have a:=(jd.1 h).1;rw[List.take_succ_eq_append_getElem a];have:=jj a;rw[this]at h;injection h with h
 rw[h]
theorem qsJ(l:List T)(k:Nat):wtL (l.take k)≤wtL l:=by
 have:=qkL (l.take k) (l.drop k);rw[j7]at this;omega
end Go.Proofs.YtgcegilpajfdhaaGreat
namespace Go.Proofs.YtgcegilpajfdhaaGreat
open Go.Proofs.Tryz
set_option maxRecDepth 100000
open Go.RowKit
theorem qzz{k:IntKind}{a b:Int}{w:World}(h:a=b):Is (.int k b) (.int k a) w:=by rw[h];rfl
def IsSl(ts:List T)(v:Value)(w:World):Prop:=SlT w ts v
theorem qnF(t:T)(v:Value)(w:World)(b:VT w t v):Calls prog 142 #[v] w (Ret w (IsSl t.used)):=by
 obtain⟨sl,rfl,hs,-⟩:=b.open_;by_cases h:t.k=2
 · have hb:(t.k==2)=true:=by simpa using h
   have a:Hid (t.used=t.ar):=by unfold T.used;rw[if_pos h];exact Lib.hid rfl
   clear h;obtain⟨A,c,xs,rfl,hr⟩:=hs
   go_enter func142,Tryz.ntmps142
   go_wp2
   go_ret
   rw[a.out];exact Ret.mk (R:=IsSl t.ar) (SlT.ext ⟨A,c,xs,rfl,hr⟩ ((Ext.rfl' w).al _)) ((Ext.rfl' w).al _)
 · have hb:(t.k==2)=false:=by simpa using h
   have a:Hid (t.used=[]):=by unfold T.used;rw[if_neg h];exact Lib.hid rfl
   clear h
   go_enter func142,Tryz.ntmps142
   go_wp2
   go_ret
   rw[a.out];exact Ret.mk (R:=IsSl []) ⟨none,0,[],rfl,by simp,by omega,Rd.nil _ _,CL.nil _⟩ ((Ext.rfl' w).al _)
def zbn(W:World)(f:List T→Nat)(l:List T)(v3 v9:Value)(wr:World):Prop:= ∃k:Nat,v3= .int .i64 (f (l.take k):Nat)∧v9= .int .i64 (k:Int)∧k≤l.length∧Ext W wr
set_option maxRecDepth 100000 in
theorem qiv:∀(n:Nat)(t:T)(v:Value)(w:World),wt t≤n→n≤1000000000→VT w t v→Calls prog 77 #[v] w (Ret w (Is (.int .i64 (z8 t:Nat))))
 |0,t,v,w,hn,_,_=>by rw[qd4]at hn;omega
 |n+1,t,v,w,hn,K,h=>by
  have IH:=zH (qiv n);have a:=h;obtain⟨sl,rfl,hs,-⟩:=h.open_;have C:=Lib.hid (qf2 t);have d:wtL t.used≤n:=by have:=qql t;rw[qd4]at hn;omega
  have f:∀u,u∈t.used→wt u≤n:=fun u hu=>by have:=qdT hu;omega
  have E:=Lib.hid f;clear f hn hs h
  go_enter func77,Tryz.ntmps77
  go_wp2_with fail
  refine(qnF t _ _ (a.ext ((Ext.rfl' w).al _))).mono ?_;rintro e w1 ⟨v,rfl,j,g⟩;have z:Hid (wtL t.used≤n):=d;clear d a;generalize t.used=l at*;obtain⟨A,c,xs,rfl,hr⟩:=j;have F:l.length≤n:=by have:=qhw l;have:=z.out;omega
  have he:Ext w w1:=((Ext.rfl' w).al _).tr g;clear g
  go_wp2
  go_loopw [3,5] (fun v3 v9 wr=>zbn w1 (fun l=>1+zC l) l v3 v9 wr) (fun _ v9 _=>l.length-(intOf v9).toNat)
  case atStart=>exact⟨0,by simp[zC],rfl,by omega,Ext.rfl' _⟩
  case round=>
   obtain⟨k,rfl,rfl,L,m⟩:=hrel;have G:zC (l.take k)≤1000000000:=by
    have M:=qsJ l k;have N:=qm5 (l.take k);have O:=z.out;omega
   by_cases hlt:k<l.length
   · obtain⟨u,hu⟩:∃u,l[k]? =some u:=⟨l[k],jj hlt⟩
     obtain⟨b,o,sl,rfl,c0,P,Q,R,hs,p⟩:=(SlT.ext ⟨A,c,xs,rfl,hr⟩ m:SlT wr l _).at_ hu;obtain⟨S,d2,H,rfl,-⟩:=hs;have I:=Lib.hid (qfv hu);have B:Hid (wt u≤n):=E.out u (List.mem_of_getElem? hu);clear hu
     go_wp2_with fail
     refine((za IH) u _ _ B.out oa p).mono ?_;rintro e U ⟨v,rfl,q,r⟩;obtain rfl:v=_:=q;have x:=m.tr r;have J:z8 u≤1000000000:=by have:=qqJ u;have:=B.out;omega
     go_wp2
     go_roundw
     case rel=>exact⟨k+1,congrArg (Value.int .i64) (show _=((1+zC (l.take (k+1)):Nat):Int) by rw[I.out,qjq];simp only[zC];omega),by go_num,by omega,x⟩
     case measure=>simp[intOf];omega
   · go_wp2
     go_ret
     rw[C.out];exact Ret.mk (qzz (by rw[vg oa])) (he.tr m)
set_option maxRecDepth 100000 in
theorem qmn:∀(n:Nat)(t:T)(v:Value)(w:World),wt t≤n→n≤1000000000→VT w t v→Calls prog 219 #[v] w (Ret w (Is (.int .i64 (yi t:Nat))))
 |0,t,v,w,hn,_,_=>by rw[qd4]at hn;omega
 |n+1,t,v,w,hn,N,h=>by
  have IH:=zH (qmn n);have a:=h;obtain⟨sl,rfl,hs,-⟩:=h.open_;have C:=Lib.hid (qgf t);have d:wtL t.used≤n:=by have:=qql t;rw[qd4]at hn;omega
  have f:∀u,u∈t.used→wt u≤n:=fun u hu=>by have:=qdT hu;omega
  have E:=Lib.hid f;clear f hn hs h
  go_enter func219,Tryz.ntmps219
  go_wp2_with fail
  refine(qnF t _ _ (a.ext ((Ext.rfl' w).al _))).mono ?_;rintro e w1 ⟨v,rfl,j,g⟩;have m:Hid (wtL t.used≤n):=d;clear d a;generalize t.used=l at*;obtain⟨A,c,xs,rfl,hr⟩:=j;have F:l.length≤n:=by have:=qhw l;have:=m.out;omega
  have he:Ext w w1:=((Ext.rfl' w).al _).tr g;clear g
  go_wp2
  go_loopw [3,5] (fun v3 v9 wr=>zbn w1 zI l v3 v9 wr) (fun _ v9 _=>l.length-(intOf v9).toNat)
  case atStart=>exact⟨0,by simp[zI],rfl,by omega,Ext.rfl' _⟩
  case round=>
   obtain⟨k,rfl,rfl,O,p⟩:=hrel;have G:zI (l.take k)≤1000000000:=by
    have P:=qsJ l k;have H:=qlb (l.take k);have I:=m.out;omega
   have J:zI l≤1000000000:=by have H:=qlb l;have I:=m.out;omega
   by_cases hlt:k<l.length
   · obtain⟨u,hu⟩:∃u,l[k]? =some u:=⟨l[k],jj hlt⟩
     obtain⟨b,o,sl,rfl,c0,Q,R,S,hs,q⟩:=(SlT.ext ⟨A,c,xs,rfl,hr⟩ p:SlT wr l _).at_ hu;obtain⟨U,d2,K,rfl,-⟩:=hs;have L:=Lib.hid (qfv hu);have B:Hid (wt u≤n):=E.out u (List.mem_of_getElem? hu);clear hu
     go_wp2_with fail
     refine((za IH) u _ _ B.out oa q).mono ?_;rintro e V ⟨v,rfl,r,x⟩;obtain rfl:v=_:=r;have z:=p.tr x;have M:yi u≤1000000000:=by have:=quI u;have:=B.out;omega
     go_wp2
     go_roundw
     case rel=>exact⟨k+1,congrArg (Value.int .i64) (show _=((zI (l.take (k+1)):Nat):Int) by rw[L.out,qmc];simp only[zI];omega),by go_num,by omega,z⟩
     case measure=>simp[intOf];omega
   · go_wp2
     go_ret
     rw[C.out];exact Ret.mk (qzz (by rw[vg oa];omega)) (he.tr p)
theorem qrY:∀(x y:List UInt8),(!Op.bytesLess x y&& !x==y)=Op.bytesLess y x
 |[],[]=>by simp[Op.bytesLess]
 |a::x,[]=>by simp[Op.bytesLess]
 |[],b::y=>by simp[Op.bytesLess]
 |a::x,b::y=>by
  have f:=qrY x y;simp only[Op.bytesLess,List.cons_beq_cons];by_cases c:a<b;have d:¬b<a:=by rw[UInt8.lt_iff_toNat_lt]at*;omega
  have e:(b==a)=false:=by rw[beq_eq_false_iff_ne];rintro rfl;exact d c
  simp[c,d,e];by_cases d:b<a;have e:(a==b)=false:=by rw[beq_eq_false_iff_ne];rintro rfl;exact c d
  simp[c,d,e];have e:a=b:=by
   apply UInt8.toNat_inj.1;rw[UInt8.lt_iff_toNat_lt]at*;omega
  subst e;simpa[c]using f
theorem qvj(t:TypeId)(a b:ByteArray):binOp .gtr t (.string a) (.string b)=pure (.bool (Op.bytesLess b.toList a.toList)):=by
 have h:=qrY a.toList b.toList;simp only[binOp];rw[←h];simp[Op.stringOp]
attribute [local go_sem] qvj
def zP(a b:Int):Int:=if a<b then-1 else if b<a then 1 else 0
def yR(a b:ByteArray):Bool:=Op.bytesLess a.toList b.toList
def yr(a b:ByteArray):Int:=if yR a b then-1 else if yR b a then 1 else 0
def zl(k:Int):Int:=if k=1 then 0 else if k=0 then 1 else if k=2 then 2 else 3
def zY(w:World)(n:Int)(e:Ending)(w':World):Prop:=e= .returned (.int .i64 n)∧w=w'
theorem zY.mk{w:World}{n m:Int}(h:m=n):zY w n (.returned (.int .i64 m)) w:=⟨by rw[h],rfl⟩
def yg(w:World)(b:Bool)(e:Ending)(w':World):Prop:=e= .returned (.bool b)∧w=w'
theorem yg.mk{w:World}{b c:Bool}(h:c=b):yg w b (.returned (.bool c)) w:=⟨by rw[h],rfl⟩
theorem quE(a:Int)(w:World):Calls prog 277 #[.int .i64 a] w (yg w false):=by
 go_enter func277,Tryz.ntmps277
 go_wp2
 go_ret
 exact yg.mk og
theorem quk(a:ByteArray)(w:World):Calls prog 393 #[.string a] w (yg w false):=by
 go_enter func393,Tryz.ntmps393
 go_wp2
 go_ret
 exact yg.mk og
theorem qeN(a b:Int)(w:World):Calls prog 235 #[.int .i64 a,.int .i64 b] w (zY w (zP a b)):=by
 go_enter func235,Tryz.ntmps235
 go_wp2_with fail
 refine(quE _ _).mono ?_;rintro e w1 ⟨rfl,rfl⟩
 go_wp2_with fail
 refine(quE _ _).mono ?_;rintro e w1 ⟨rfl,rfl⟩;by_cases d:a<b
 · have c:Hid (zP a b= -1):=by unfold zP;rw[if_pos d];exact Lib.hid rfl
   go_wp2
   go_ret
   exact zY.mk c.out.symm
 · by_cases f:b<a
   · have c:Hid (zP a b=1):=by unfold zP;rw[if_neg d,if_pos f];exact Lib.hid rfl
     go_wp2
     go_ret
     exact zY.mk c.out.symm
   · have c:Hid (zP a b=0):=by unfold zP;rw[if_neg d,if_neg f];exact Lib.hid rfl
     go_wp2
     go_ret
     exact zY.mk c.out.symm
theorem qqC(a b:ByteArray)(w:World):Calls prog 384 #[.string a,.string b] w (zY w (yr a b)):=by
 go_enter func384,Tryz.ntmps384
 go_wp2_with fail
 refine(quk _ _).mono ?_;rintro e w1 ⟨rfl,rfl⟩
 go_wp2_with fail
 refine(quk _ _).mono ?_;rintro e w1 ⟨rfl,rfl⟩;by_cases c:yR a b=true
 · have f:Hid (yr a b= -1):=by unfold yr;rw[if_pos c];exact Lib.hid rfl
   unfold yR at c
   go_wp2
   go_ret
   exact zY.mk f.out.symm
 · by_cases d:yR b a=true
   · have f:Hid (yr a b=1):=by unfold yr;rw[if_neg c,if_pos d];exact Lib.hid rfl
     have c:yR a b=false:=by simpa using c
     unfold yR at c d
     go_wp2
     go_ret
     exact zY.mk f.out.symm
   · have f:Hid (yr a b=0):=by unfold yr;rw[if_neg c,if_neg d];exact Lib.hid rfl
     have c:yR a b=false:=by simpa using c
     have d:yR b a=false:=by simpa using d
     unfold yR at c d
     go_wp2
     go_ret
     exact zY.mk f.out.symm
theorem qe3(k:Int)(w:World):Calls prog 383 #[.int .i64 k] w (zY w (zl k)):=by
 by_cases a:k=1
 · subst a
   go_enter func383,Tryz.ntmps383
   go_wp2
   go_ret
   exact zY.mk rfl
 by_cases b:k=0
 · subst b
   go_enter func383,Tryz.ntmps383
   go_wp2
   go_ret
   exact zY.mk rfl
 by_cases c:k=2
 · subst c
   go_enter func383,Tryz.ntmps383
   go_wp2
   go_ret
   exact zY.mk rfl
 have d:Hid (zl k=3):=by unfold zl;rw[if_neg a,if_neg b,if_neg c];exact Lib.hid rfl
 have e:(k==1)=false:=by simpa using a
 have f:(k==0)=false:=by simpa using b
 have g:(k==2)=false:=by simpa using c
 clear a b c
 go_enter func383,Tryz.ntmps383
 go_wp2
 go_ret
 exact zY.mk d.out.symm
theorem qeh(a b:Int)(w:World):Calls prog 266 #[.int .i64 a,.int .i64 b] w (zY w (zP a b)):=by
 by_cases d:a<b
 · have c:Hid (zP a b= -1):=by unfold zP;rw[if_pos d];exact Lib.hid rfl
   go_enter func266,Tryz.ntmps266
   go_wp2
   go_ret
   exact zY.mk c.out.symm
 · by_cases e:b<a
   · have c:Hid (zP a b=1):=by unfold zP;rw[if_neg d,if_pos e];exact Lib.hid rfl
     go_enter func266,Tryz.ntmps266
     go_wp2
     go_ret
     exact zY.mk c.out.symm
   · have c:Hid (zP a b=0):=by unfold zP;rw[if_neg d,if_neg e];exact Lib.hid rfl
     go_enter func266,Tryz.ntmps266
     go_wp2
     go_ret
     exact zY.mk c.out.symm
theorem qhZ(a b:ByteArray)(w:World):Calls prog 265 #[.string a,.string b] w (zY w (yr a b)):=by
 by_cases c:yR a b=true
 · have e:Hid (yr a b= -1):=by unfold yr;rw[if_pos c];exact Lib.hid rfl
   unfold yR at c
   go_enter func265,Tryz.ntmps265
   go_wp2
   go_ret
   exact zY.mk e.out.symm
 · by_cases d:yR b a=true
   · have e:Hid (yr a b=1):=by unfold yr;rw[if_neg c,if_pos d];exact Lib.hid rfl
     have c:yR a b=false:=by simpa using c
     unfold yR at c d
     go_enter func265,Tryz.ntmps265
     go_wp2
     go_ret
     exact zY.mk e.out.symm
   · have e:Hid (yr a b=0):=by unfold yr;rw[if_neg c,if_neg d];exact Lib.hid rfl
     have c:yR a b=false:=by simpa using c
     have d:yR b a=false:=by simpa using d
     unfold yR at c d
     go_enter func265,Tryz.ntmps265
     go_wp2
     go_ret
     exact zY.mk e.out.symm
theorem qfh(t:T)(v:Value)(w:World)(e:VT w t v):Calls prog 267 #[v] w (Ret w (Is (.int .i64 (zl t.k)))):=by
 obtain⟨sl,rfl,-,-⟩:=e.open_;by_cases a:t.k=1
 · have c:Hid (zl t.k=0):=by unfold zl;rw[if_pos a];exact Lib.hid rfl
   have f:(t.k==1)=true:=by simpa using a
   clear a e
   go_enter func267,Tryz.ntmps267
   go_wp2
   go_ret
   rw[c.out];exact Ret.mk rfl ((Ext.rfl' w).al _)
 by_cases b:t.k=0
 · have c:Hid (zl t.k=1):=by unfold zl;rw[if_neg a,if_pos b];exact Lib.hid rfl
   have f:(t.k==1)=false:=by simpa using a
   have g:(t.k==0)=true:=by simpa using b
   clear a b e
   go_enter func267,Tryz.ntmps267
   go_wp2
   go_ret
   rw[c.out];exact Ret.mk rfl ((Ext.rfl' w).al _)
 by_cases d:t.k=2
 · have c:Hid (zl t.k=2):=by unfold zl;rw[if_neg a,if_neg b,if_pos d];exact Lib.hid rfl
   have f:(t.k==1)=false:=by simpa using a
   have g:(t.k==0)=false:=by simpa using b
   have h:(t.k==2)=true:=by simpa using d
   clear a b d e
   go_enter func267,Tryz.ntmps267
   go_wp2
   go_ret
   rw[c.out];exact Ret.mk rfl ((Ext.rfl' w).al _)
 have c:Hid (zl t.k=3):=by unfold zl;rw[if_neg a,if_neg b,if_neg d];exact Lib.hid rfl
 have f:(t.k==1)=false:=by simpa using a
 have g:(t.k==0)=false:=by simpa using b
 have h:(t.k==2)=false:=by simpa using d
 clear a b d e
 go_enter func267,Tryz.ntmps267
 go_wp2
 go_ret
 rw[c.out];exact Ret.mk rfl ((Ext.rfl' w).al _)
def y6(c:Nat):Bool:=decide (97≤c∧c≤122)
def isUp(c:Nat):Bool:=decide (65≤c∧c≤90)
def za7(c:Nat):Bool:=decide (48≤c∧c≤57)
def ofC(c:Nat):Nat:=if 97≤c∧c≤122 then 1 else if(65≤c∧c≤90)∨c=95 then 2 else if 48≤c∧c≤57 then 4 else 0
def isW(c:Nat):Bool:=decide (ofC c≠0)
theorem qis{w:World}{b c:Bool}(h:c=true↔b=true):yg w b (.returned (.bool c)) w:=yg.mk (by cases b<;>cases c<;>simp_all)
theorem qr7(c:Nat)(w:World):Calls prog 145 #[.int .u8 c] w (yg w (y6 c)):=by
 go_enter func145,Tryz.ntmps145
 go_wp2
 all_goals go_ret
 all_goals refine qis ?_
 all_goals(unfold y6;simp only[decide_eq_true_eq,va,false_iff];omega)
theorem qvM(c:Nat)(w:World):Calls prog 212 #[.int .u8 c] w (yg w (isUp c)):=by
 go_enter func212,Tryz.ntmps212
 go_wp2
 all_goals go_ret
 all_goals refine qis ?_
 all_goals(unfold isUp;simp only[decide_eq_true_eq,va,false_iff];omega)
theorem qBy(c:Nat)(w:World):Calls prog 269 #[.int .u8 c] w fun e w'=>e= .returned (.int .u8 (ofC c))∧w=w':=by
 go_enter func269,Tryz.ntmps269
 go_wp2
 all_goals go_ret
 all_goals refine⟨congrArg (fun n:Int=>Ending.returned (.int .u8 n)) (?_:_=((ofC c:Nat):Int)),rfl⟩
 all_goals((try simp only[beq_eq_false_iff_ne,beq_iff_eq]at*);unfold ofC;repeat' split)
 all_goals omega
theorem qv2(c:Nat):ofC c=0∨ofC c=1∨ofC c=2∨ofC c=4:=by
 unfold ofC;repeat' split
 all_goals simp
theorem qAR(c:Nat)(k:Int)(h:(ofC c:Int)=k)(w:World):Calls prog 269 #[.int .u8 c] w fun e w'=>e= .returned (.int .u8 k)∧w=w':=h▸qBy c w
theorem qxT(r:Nat)(w:World):Calls prog 271 #[.int .i32 r] w (yg w (!isW r)):=by
 by_cases d:r≤122
 · rcases qv2 r with h|h|h|h<;>have a:Hid (isW r=_):=Lib.hid (congrArg (fun n=>decide (n≠0)) h)<;>have b:=zH (qAR r _ (congrArg Nat.cast h))<;>clear h
   all_goals
    go_enter func271,Tryz.ntmps271
    go_wp2_with fail
    refine((za b) _).mono ?_;rintro e w1 ⟨rfl,rfl⟩
    go_wp2
    go_ret
    refine qis ?_;rw[a.out];simp;try omega
 · have c:Hid (isW r=false):=Lib.hid (by unfold isW ofC;rw[if_neg oa,if_neg oa,if_neg oa];rfl)
   go_enter func271,Tryz.ntmps271
   go_wp2
   go_ret
   exact yg.mk (by rw[c.out];rfl)
def yK(s:ByteArray):Bool:=decide (s.toList=[99,111,110,115,116,114,97,105,110,116]∨s.toList=[116,114,117,101]∨s.toList=[102,97,105,108]∨s.toList=[105,115]∨s.toList=[105,110,116]∨s.toList=[103,114,111,117,110,100])
theorem qnp(s:ByteArray)(w:World):Calls prog 146 #[.string s] w (yg w (yK s)):=by
 go_enter func146,Tryz.ntmps146
 go_wp2
 all_goals go_ret
 all_goals refine qis ?_
 all_goals(unfold yK;simp[*])
theorem qrJ(s:ByteArray)(w:World):Calls prog 224 #[.string s] w (yg w (yK s)):=by
 go_enter func224,Tryz.ntmps224
 go_wp2
 all_goals go_ret
 all_goals refine qis ?_
 all_goals((try simp only[beq_iff_eq,beq_eq_false_iff_ne]at*);first|contradiction|(unfold yK;simp[*]))
theorem qpX(s:ByteArray)(c:Int)(w:World):Calls prog 352 #[.string s,.int .u8 c] w (zY w (Lib.indexByte s.data.toList c.toNat.toUInt8)):=by
 go_enter func352,Tryz.ntmps352
 go_wp2
 rw[run_callFunc_extern func381 ob ob ob (e:=Extern.BytealgIndexByte.indexByte) ob,Lib.run_indexByteString];simp only[Result.andThen];rw[Oper.upon_value]
 go_wp2
 go_ret
 exact zY.mk rfl
theorem qpS(c:UInt8)(w:World):Calls prog 322 #[.string {data:=#[43,45,42,47,37]},.string ⟨#[c]⟩] w (zY w (Lib.indexByte [43,45,42,47,37] c)):=by
 go_enter func322,Tryz.ntmps322
 go_wp2_with fail
 refine(qpX _ _ _).mono ?_;rintro e w1 ⟨rfl,rfl⟩
 go_wp2
 go_ret
 exact zY.mk rfl
theorem qwV(c:UInt8)(w:World):Calls prog 300 #[.string {data:=#[43,45,42,47,37]},.string ⟨#[c]⟩] w (zY w (Lib.indexByte [43,45,42,47,37] c)):=by
 go_enter func300,Tryz.ntmps300
 go_wp2_with fail
 refine(qpS _ _).mono ?_;rintro e w1 ⟨rfl,rfl⟩
 go_wp2
 go_ret
 exact zY.mk rfl
def zaR(s:ByteArray):Bool:=decide (s.toList=[43]∨s.toList=[45]∨s.toList=[42]∨s.toList=[47]∨s.toList=[37])
theorem qoa(s:ByteArray)(w:World):Calls prog 268 #[.string s] w (yg w (zaR s)):=by
 go_enter func268,Tryz.ntmps268
 go_wp2
 all_goals go_ret
 all_goals refine qis ?_
 all_goals(unfold zaR;simp[*])
theorem qy1(c:UInt8):zaR ⟨#[c]⟩=decide (0≤Lib.indexByte [43,45,42,47,37] c):=by
 rw[←Lib.contains_iff_indexByte];unfold zaR;have:(⟨#[c]⟩:ByteArray).toList=[c]:=by simp[Lib.toList_data]
 rw[this,jP];simp
theorem qsv(c:UInt8)(w:World):Calls prog 263 #[.string {data:=#[43,45,42,47,37]},.string ⟨#[c]⟩] w (yg w (zaR ⟨#[c]⟩)):=by
 rw[qy1]
 go_enter func263,Tryz.ntmps263
 go_wp2_with fail
 refine(qwV _ _).mono ?_;rintro e w1 ⟨rfl,rfl⟩
 go_wp2
 go_ret
 exact yg.mk rfl
theorem qmr(s:ByteArray)(w:World):Calls prog 207 #[.string s] w (yg w (zaR s)):=by
 by_cases d:s.size=1
 · obtain⟨c,rfl⟩:∃c,s=⟨#[c]⟩:=by
    obtain⟨a⟩:=s;have b:a.size=1:=d;refine⟨a[0],congrArg ByteArray.mk (Array.ext (by simp[b]) fun i hi g=>?_)⟩;obtain rfl:i=0:=by omega
    rfl
   go_enter func207,Tryz.ntmps207
   go_wp2_with fail
   refine(qsv _ _).mono ?_;rintro e w1 ⟨rfl,rfl⟩
   go_wp2
   go_ret
   exact yg.mk rfl
 · have f:Hid (zaR s=false):=Lib.hid (by
    unfold zaR;rw[decide_eq_false_iff_not];have b:s.toList.length=s.size:=by rw[Lib.toList_data];rfl
    rintro(h|h|h|h|h)<;>rw[h]at b<;>exact d b.symm)
   go_enter func207,Tryz.ntmps207
   go_wp2
   go_ret
   exact yg.mk f.out.symm
def zbp(s:ByteArray)(i:Nat):Prop:=∀j(h:j<s.size),i≤j→isW (s[j]'h).toNat=true
def zbC(s:ByteArray)(i:Nat):Prop:=∀j(h:j<s.size),j<i→isW (s[j]'h).toNat=true
instance decAllW(s:ByteArray)(i:Nat):Decidable (zbp s i):=decidable_of_iff (∀j:Fin s.size,i≤j.1→isW (s[j.1]'j.2).toNat=true) ⟨fun h j a hi=>h ⟨j,a⟩ hi,fun h j hi=>h j.1 j.2 hi⟩
def isWord(s:ByteArray):Bool:=decide (1≤s.size∧s.size≤40∧zbp s 0)
theorem qtO(c:Nat):isW c=(y6 c||isUp c||c==95||za7 c):=by
 unfold isW ofC y6 isUp za7;rw[jP];simp only[ne_eq,decide_eq_true_eq,Jq,beq_iff_eq];repeat' split
 all_goals simp
 all_goals omega
theorem zbC.step{s:ByteArray}{k:Nat}(h:zbC s k)(b:k<s.size)(c:isW (s[k]'b).toNat=true):zbC s (k+1):=fun j d hl=>by
 by_cases a:j=k;subst a;exact c;exact h j d oa
theorem qyY{s:ByteArray}{k:Nat}(a:k<s.size)(b:isW (s[k]'a).toNat=false):isWord s=false:=by
 unfold isWord;rw[decide_eq_false_iff_not];rintro⟨-,-,h⟩;rw[h k a (ju _)]at b;simp at b
theorem qyk{s:ByteArray}(h:zbC s s.size):isWord s=decide (1≤s.size∧s.size≤40):=by
 unfold isWord;have:zbp s 0:=fun j a _=>h j a a;rw[jP];simp[this]
def zcD(w:World)(s:ByteArray)(v3:Value)(w':World):Prop:=∃k:Nat,v3= .int .i64 k∧k≤s.size∧Hid (zbC s k)∧w=w'
theorem qwN{s:ByteArray}(hs:Hid (s.size≤9223372036854775807)){k:Nat}(a:k<s.size):Hid (wrap64 ((k:Int)+1)=((k+1:Nat):Int)):=by
 have:=hs.out;refine Lib.hid ?_;unfold wrap64;omega
theorem qtj(s:ByteArray)(hs:Hid (s.size≤9223372036854775807))(w:World):Calls prog 144 #[.string s] w (yg w (isWord s)):=by
 go_enter func144,Tryz.ntmps144
 go_wp2
 go_loopw [3] (zcD w s) (fun v3 _=>s.size-(intOf v3).toNat)
 case atStart=>exact⟨0,rfl,by omega,Lib.hid (fun j _ h=>absurd h oa),rfl⟩
 case round=>
  obtain⟨k,rfl,t,hi,rfl⟩:=hrel;by_cases hlt:k<s.size
  · obtain⟨c,f⟩:∃c,(s[k]'hlt).toNat=c:=⟨_,rfl⟩
    have m:Hid (isW c=true→zbC s (k+1)):=Lib.hid fun h=>hi.out.step hlt (by rw[f];exact h);have q:Hid (isW c=false→isWord s=false):=Lib.hid fun h=>qyY hlt (by rw[f];exact h);have a:=qwN hs hlt;have b:=zH (qr7 c);have g:=zH (qvM c);cases l:y6 c<;>rw[l]at b
    · cases n:isUp c<;>rw[n]at g
      · have o:Hid (isW c=(c==95||za7 c)):=Lib.hid (by rw[qtO,l,n];rfl)
        clear l n
        go_wp2_with fail
        try simp only[f]
        refine((za b) _).mono ?_;rintro e w1 ⟨rfl,rfl⟩
        go_wp2_with fail
        try simp only[f]
        refine((za g) _).mono ?_;rintro e w1 ⟨rfl,rfl⟩
        go_wp2
        · have p:Hid (isWord s=false):=by
           refine Lib.hid (q.out ?_);rw[o.out];unfold za7;simp_all;omega
          go_ret
          exact yg.mk p.out.symm
        · have d:Hid (zbC s (k+1)):=by
           refine Lib.hid (m.out ?_);rw[o.out];unfold za7;simp_all;omega
          refine⟨⟨k+1,by rw[a.out],by omega,d,rfl⟩,?_⟩;rw[a.out];simp[intOf];omega
        · have d:Hid (zbC s (k+1)):=by
           refine Lib.hid (m.out ?_);rw[o.out];unfold za7;simp_all;omega
          refine⟨⟨k+1,by rw[a.out],by omega,d,rfl⟩,?_⟩;rw[a.out];simp[intOf];omega
        · have p:Hid (isWord s=false):=by
           refine Lib.hid (q.out ?_);rw[o.out];unfold za7;simp_all;omega
          go_ret
          exact yg.mk p.out.symm
        all_goals
         have d:Hid (zbC s (k+1)):=by
          refine Lib.hid (m.out ?_);rw[o.out];unfold za7;simp_all
         refine⟨⟨k+1,by rw[a.out],by omega,d,rfl⟩,?_⟩;rw[a.out];simp[intOf];omega
      · have d:Hid (zbC s (k+1)):=Lib.hid (m.out (by rw[qtO,l,n];rfl))
        clear l n
        go_wp2_with fail
        try simp only[f]
        refine((za b) _).mono ?_;rintro e w1 ⟨rfl,rfl⟩
        go_wp2_with fail
        try simp only[f]
        refine((za g) _).mono ?_;rintro e w1 ⟨rfl,rfl⟩
        go_wp2
        go_roundw
        case measure=>rw[a.out];simp[intOf];omega
        case rel=>exact⟨k+1,by rw[a.out],by omega,d,rfl⟩
    · have d:Hid (zbC s (k+1)):=Lib.hid (m.out (by rw[qtO,l];rfl))
      clear l
      go_wp2_with fail
      try simp only[f]
      refine((za b) _).mono ?_;rintro e w1 ⟨rfl,rfl⟩
      go_wp2
      go_roundw
      case measure=>rw[a.out];simp[intOf];omega
      case rel=>exact⟨k+1,by rw[a.out],by omega,d,rfl⟩
  · have r:Hid (isWord s=decide (1≤s.size∧s.size≤40)):=by
     obtain rfl:k=s.size:=by omega
     exact Lib.hid (qyk hi.out)
    go_wp2
    all_goals go_ret
    all_goals refine qis ?_
    all_goals(rw[r.out];simp;try omega)
noncomputable def zR(s:ByteArray):Bool:=isWord s&&y6 (s.get! 0).toNat&& !yK s
theorem qwX{s:ByteArray}{k:Nat}(h:k<s.size):s.get! k=s[k]'h:=by
 show s.get! k=_;simp[ByteArray.get!,getElem!_pos,h];rfl
theorem get0{s:ByteArray}(h:0<s.size):(s[0]'h)=s.get! 0:=(qwX h).symm
theorem qgY{s:ByteArray}(h:isWord s=true):1≤s.size∧s.size≤40∧zbp s 0:=by
 unfold isWord at h;exact of_decide_eq_true h
theorem qkq(s:ByteArray)(hs:Hid (s.size≤9223372036854775807))(w:World):Calls prog 79 #[.string s] w (yg w (zR s)):=by
 have a:=zH (qtj s hs);have d:=zH (qnp s);have b:=zH (qr7 (s.get! 0).toNat);cases c:isWord s<;>rw[c]at a
 · have f:Hid (zR s=false):=Lib.hid (by unfold zR;rw[c];rfl)
   clear c
   go_enter func79,Tryz.ntmps79
   go_wp2_with fail
   refine((za a) _).mono ?_;rintro e w1 ⟨rfl,rfl⟩
   go_wp2
   go_ret
   exact yg.mk f.out.symm
 · have g:0<s.size:=by
    have:=(qgY c).1;omega
   have j:=get0 g;cases h:y6 (s.get! 0).toNat<;>rw[h]at b
   · have f:Hid (zR s=false):=Lib.hid (by unfold zR;rw[c,h];rfl)
     clear c h
     go_enter func79,Tryz.ntmps79
     go_wp2_with fail
     refine((za a) _).mono ?_;rintro e w1 ⟨rfl,rfl⟩
     go_wp2_with fail
     try rw[j]
     refine((za b) _).mono ?_;rintro e w1 ⟨rfl,rfl⟩
     go_wp2
     go_ret
     exact yg.mk f.out.symm
   · have f:Hid (zR s= !yK s):=Lib.hid (by unfold zR;rw[c,h];rfl)
     clear c h
     go_enter func79,Tryz.ntmps79
     go_wp2_with fail
     refine((za a) _).mono ?_;rintro e w1 ⟨rfl,rfl⟩
     go_wp2_with fail
     try rw[j]
     refine((za b) _).mono ?_;rintro e w1 ⟨rfl,rfl⟩
     go_wp2_with fail
     refine((za d) _).mono ?_;rintro e w1 ⟨rfl,rfl⟩
     go_wp2
     go_ret
     exact yg.mk f.out.symm
theorem qya(s:ByteArray)(pos:Nat)(h:pos<s.size):(isW (Utf8.decode s pos).1=true→isW (s[pos]'h).toNat=true∧(Utf8.decode s pos).2=1)∧(isW (Utf8.decode s pos).1=false→isW (s[pos]'h).toNat=false):=by
 by_cases d:(s[pos]'h).toNat<128;rw[decode_ascii s pos h d];exact⟨fun h=>⟨h,rfl⟩,fun h=>h⟩
 · have a:¬(Utf8.decode s pos).1≤122:=by
    rw[Lib.decode_at,qwX h];unfold Lib.decodeN;repeat' split
    all_goals simp only
    all_goals first|omega|simp_all
   have b:∀c:Nat,¬c≤122→isW c=false:=fun c e=>by
    unfold isW ofC;rw[if_neg oa,if_neg oa,if_neg oa];rfl
   rw[b _ a,b _ oa];simp
def zbe(s:ByteArray)(v:Value)(_:World):Prop:=∃n:Int,v= .int .i64 n∧(n<0↔zbp s 0)
theorem zbe.mk{s:ByteArray}{n:Int}{w:World}(h:n<0↔zbp s 0):zbe s (.int .i64 n) w:=⟨n,rfl,h⟩
theorem qpN(s:ByteArray)(w:World):Calls prog 301 #[.string s,.func (.func 271) #[] #[],.bool true] w (Ret w (zbe s)):=by
 go_enter func301,Tryz.ntmps301
 go_wp2
 go_loopg [] s.size (fun gf t=>∃pos:Nat,t.heap[w.heap.size]? =some (.stringIter s pos)∧Ext w t∧pos≤s.size∧Hid (zbC s pos)∧s.size≤pos+gf)
 case atStart=>exact⟨0,World.iter_heap w s 0,(Ext.rfl' w).al _,by omega,Lib.hid (fun j _ h=>absurd h oa),by omega⟩
 case round=>
  obtain⟨pos,hit,m,hle,n,u⟩:=hrel;by_cases c:pos<s.size
  · obtain⟨r,rfl⟩:∃r,gk=r+1:=⟨gk-1,by omega⟩
    have g:∀ty,(Instr.next (.pointer (some ⟨w.heap.size,0,none⟩)) true ty).run prog wr=_:=fun ty=>Lib.run_next_any_at wr w.heap.size s pos ty hit c;obtain⟨o,q⟩:=qya s pos c;obtain⟨R,hR⟩:∃R,(Utf8.decode s pos).1=R:=⟨_,rfl⟩
    obtain⟨K,hK⟩:∃K,(Utf8.decode s pos).2=K:=⟨_,rfl⟩
    rw[hR,hK]at g o;rw[hR]at q;have f:=Lib.iterAt_heap wr w.heap.size s pos (pos+K) hit;have d:Ext w (wr.iterAt w.heap.size s (pos+K)):=Lib.below_iterAt m (k:=w.heap.size) (jf _) s (pos+K);obtain⟨W,l⟩:∃W,wr.iterAt w.heap.size s (pos+K)=W:=⟨_,rfl⟩
    rw[l]at g f d;have a:=zH (qxT R);cases b:isW R<;>rw[b]at a
    · have p:Hid (¬zbp s 0):=Lib.hid fun h=>by
       have:=q b;rw[h pos c (ju _)]at this;simp at this
      clear o q b hR hK l
      go_wp2_with fail
      refine((za a) _).mono ?_;rintro e w1 ⟨rfl,rfl⟩
      go_wp2
      go_ret
      refine Ret.mk (zbe.mk ?_) d;have:=p.out;constructor
      · intro h;omega
      · intro h;exact absurd h this
    · obtain rfl:K=1:=(o b).2
      have p:Hid (zbC s (pos+1)):=Lib.hid (n.out.step c (o b).1);clear o q b hR hK l
      go_wp2_with fail
      refine((za a) _).mono ?_;rintro e w1 ⟨rfl,rfl⟩
      go_wp2
      go_roundg r
      case measure=>omega
      case rel=>exact⟨pos+1,f,d,by omega,p,by omega⟩
  · have g:∀ty,(Instr.next (.pointer (some ⟨w.heap.size,0,none⟩)) true ty).run prog wr=_:=fun ty=>Lib.run_next_end_at wr w.heap.size s pos ty hit c
    have p:Hid (zbp s 0):=Lib.hid fun j h _=>n.out j h oa
    go_wp2
    go_ret
    refine Ret.mk (zbe.mk ?_) m;have:=p.out;constructor
    · intro _;exact this
    · intro _;omega
theorem quW(s:ByteArray)(w:World):Calls prog 270 #[.string s,.func (.func 271) #[] #[]] w (Ret w (zbe s)):=by
 go_enter func270,Tryz.ntmps270
 go_wp2_with fail
 refine(qpN _ _).mono ?_;rintro e w1 ⟨v,rfl,⟨n,rfl,hn⟩,he⟩;have hn:=zH hn
 go_wp2
 go_ret
 exact Ret.mk (zbe.mk (za hn)) he
theorem qyG{s:ByteArray}(hs:0<s.size)(b:isW (s.get! 0).toNat=true):zbp (s.extract 1 s.size) 0↔zbp s 0:=by
 constructor;intro h j a _;rcases Nat.eq_zero_or_pos j with rfl|d
 rw[←qwX a];exact b;have c:j-1<(s.extract 1 s.size).size:=by rw[ByteArray.size_extract];omega
 have:=h (j-1) c (ju _);rw[ByteArray.getElem_extract]at this;simpa[show 1+(j-1)=j by omega]using this;intro h j a _;rw[ByteArray.getElem_extract];exact h _ _ (ju _)
theorem qDH{c:Nat}(h:y6 c=true):isW c=true:=by rw[qtO,h];rfl
theorem qAz{c:Nat}(h:y6 c=true):ofC c=1:=by
 unfold y6 at h;unfold ofC;rw[if_pos (by simpa using h)]
theorem qvt{c:Nat}(h:y6 c=false):ofC c=0∨ofC c=2∨ofC c=4:=by
 unfold y6 at h;unfold ofC;rw[if_neg (by simpa using h)];repeat' split
 all_goals simp
theorem qkg(s:ByteArray):s.toList.length=s.size:=by rw[Lib.toList_data];rfl
theorem qwk{s:ByteArray}(h:s.size=0∨40<s.size):Hid ((isWord s&&y6 (s.get! 0).toNat)=false):=Lib.hid (by
 cases a:isWord s;rfl;have:=qgY a;omega)
open Classical in
theorem qvp{s:ByteArray}(a:0<s.size)(b:¬40<s.size)(h:zbp s 0):isWord s=true:=by
 unfold isWord;exact decide_eq_true ⟨by omega,by omega,h⟩
theorem bits01:bits .and .u8 0 1=0:=by decide
theorem bits21:bits .and .u8 2 1=0:=by decide
theorem bits41:bits .and .u8 4 1=0:=by decide
theorem bits11:bits .and .u8 1 1=1:=by decide
theorem qrE(s:ByteArray)(w:World):Calls prog 223 #[.string s,.int .u8 1] w (Ret w (Is (.bool (isWord s&&y6 (s.get! 0).toNat)))):=by
 by_cases f:s.size=0
 · have g:=qwk (.inl f)
   have hl:s.toList=[]:=jG (by rw[qkg,f])
   go_enter func223,Tryz.ntmps223
   go_wp2
   go_ret
   exact Ret.mk (g.out▸rfl) (Ext.rfl' w)
 have hl:¬s.toList=[]:=fun h=>f (by rw[←qkg,h];rfl);have m:s.toList.isEmpty=false:=by simpa using hl
 by_cases c:40<s.size
 · have g:=qwk (.inr c)
   go_enter func223,Tryz.ntmps223
   go_wp2
   go_ret
   exact Ret.mk (g.out▸rfl) (Ext.rfl' w)
 have a:0<s.size:=by omega
 have o:=get0 a;cases d:y6 (s.get! 0).toNat
 · rcases qvt d with h|h|h<;>have b:=zH (qAR _ _ (congrArg Nat.cast h))
   all_goals
    clear h d;have p:=bits01;have q:=bits21;have r:=bits41
    go_enter func223,Tryz.ntmps223
    go_wp2_with fail
    refine((za b) _).mono ?_;rintro e w1 ⟨rfl,rfl⟩
    go_wp2
    go_ret
    exact Ret.mk (by rw[Bool.and_false];rfl) (Ext.rfl' w)
 · have b:=zH (qAR _ _ (congrArg Nat.cast (qAz d)))
   have j:Hid (zbp (s.extract 1 s.size) 0↔zbp s 0):=Lib.hid (qyG a (qDH d));have hF:Hid (zbp s 0→isWord s=true):=Lib.hid (qvp a c);clear d;have t:=bits11
   go_enter func223,Tryz.ntmps223
   go_wp2_with fail
   refine((za b) _).mono ?_;rintro e w1 ⟨rfl,rfl⟩
   go_wp2_with fail
   refine(quW _ _).mono ?_;rintro e w1 ⟨v,rfl,⟨n,rfl,hn⟩,he⟩;have hn:=zH hn
   go_wp2
   go_ret
   refine Ret.mk ?_ he;have l:=(za hn).trans j.out;show Value.bool _=Value.bool _;congr 1
   rw[Bool.and_true,jP,decide_eq_true_eq];first
   |exact⟨fun h=>hF.out (l.1 h),fun h=>l.2 (qgY h).2.2⟩
   |exact⟨fun h=>hF.out (j.out.1 h),fun h=>j.out.2 (qgY h).2.2⟩
theorem qqN(s:ByteArray)(w:World):Calls prog 163 #[.string s] w (Ret w (Is (.bool (zR s)))):=by
 have a:=zH (qrE s);cases b:isWord s&&y6 (s.get! 0).toNat<;>rw[b]at a
 · have c:Hid (zR s=false):=Lib.hid (by unfold zR;rw[b];rfl)
   clear b
   go_enter func163,Tryz.ntmps163
   go_wp2_with fail
   refine((za a) _).mono ?_;rintro e w1 ⟨v,rfl,d,he⟩;obtain rfl:v=_:=d
   go_wp2
   go_ret
   exact Ret.mk (c.out▸rfl) he
 · have c:Hid (zR s= !yK s):=Lib.hid (by unfold zR;rw[b];rfl)
   clear b
   go_enter func163,Tryz.ntmps163
   go_wp2_with fail
   refine((za a) _).mono ?_;rintro e w1 ⟨v,rfl,d,he⟩;obtain rfl:v=_:=d
   go_wp2_with fail
   refine(qrJ _ _).mono ?_;rintro e w1 ⟨rfl,rfl⟩
   go_wp2
   go_ret
   exact Ret.mk (c.out▸rfl) he
mutual
noncomputable def zJ:T→Bool |.mk k i s ar=>if k=0 then decide (-2147483648≤i∧i≤2147483648∧s.toList=[]∧ar.length=0)else if k=1 then decide (0≤i∧i≤1048576∧s.toList=[]∧ar.length=0)else if k=2 then(decide (i=0)&&((zaR s&&decide (ar.length=2))||(zR s&&decide (ar.length≤6))))&&zQ ar else false
noncomputable def zQ:List T→Bool |[]=>true |t::ts=>zJ t&&zQ ts
end
noncomputable def yL(t:T):Bool:=decide (t.i=0)&&((zaR t.s&&decide (t.ar.length=2))||(zR t.s&&decide (t.ar.length≤6)))
theorem qmb{t:T}(h:t.k=0):zJ t=decide (-2147483648≤t.i∧t.i≤2147483648∧t.s.toList=[]∧t.ar.length=0):=by
 cases t;simp only[T.k]at h;subst h;simp[zJ,T.i,T.s,T.ar]
theorem ql7{t:T}(h:t.k=1):zJ t=decide (0≤t.i∧t.i≤1048576∧t.s.toList=[]∧t.ar.length=0):=by
 cases t;simp only[T.k]at h;subst h;simp[zJ,T.i,T.s,T.ar]
theorem qkE{t:T}(h:t.k=2):zJ t=(yL t&&zQ t.ar):=by
 cases t;simp only[T.k]at h;subst h;simp only[zJ,yL,T.i,T.s,T.ar];rfl
theorem qlV{t:T}(a:t.k≠0)(b:t.k≠1)(c:t.k≠2):zJ t=false:=by
 cases t;simp only[T.k]at a b c;simp[zJ,a,b,c]
theorem qkZ(a b:List T):zQ (a++b)=(zQ a&&zQ b):=by
 induction a with
 |nil=>simp[zQ]
 |cons t a c=>simp only[jy,zQ,c,Bool.and_assoc]
def yc(t:T)(b d:Int):Prop:=zJ t=true∧(z8 t:Int)≤b∧(yi t:Int)≤d
def yd(l:List T)(b d:Int):Prop:=zQ l=true∧(zC l:Int)≤b∧(zI l:Int)≤d
def Bud(W:World)(B:Nat)(ok:Prop)(n:Int)(e:Ending)(w':World):Prop:= ∃r:Bool,e= .returned (.bool r)∧(r=true↔ok)∧Ext W w'∧(r=true→Boxed w' B 209 (.int .i64 n))
theorem Bud.mk{W:World}{B:Nat}{ok:Prop}{n:Int}{r:Bool}{w':World}(h:r=true↔ok)(he:Ext W w')(hb:r=true→Boxed w' B 209 (.int .i64 n)):Bud W B ok n (.returned (.bool r)) w':=
 ⟨r,rfl,h,he,hb⟩
theorem Bud.no{W:World}{B:Nat}{ok:Prop}{n:Int}{w':World}(h:¬ok)(he:Ext W w'):Bud W B ok n (.returned (.bool false)) w':=
 ⟨false,rfl,by simp[h],he,by simp⟩
theorem qgb(w:World)(p:Addr)(v:Value)(cs:Array Value)(t:TypeId)(j:Nat)(u:Value)(h:cs[j]? =some u):((w.setCell p v).alloc (.cells cs t)).cell? ⟨w.heap.size,j,none⟩=some u:=by
 have c:(w.setCell p v).heap.size=w.heap.size:=by simp[World.setCell]
 rcases Rd.newAt (w.setCell p v) _ cs t c with d|⟨ad,a,e⟩
 rw[←vc,d]at h;simp at h;have:=e j u (by rw[vc];exact h);injection a with a
 subst a;by_cases b:j=0;subst b;simpa[Addr.add]using this;simpa[Addr.add,b]using this
theorem leaf{t:T}{b d:Int}{Q:Prop}[Decidable Q](a:zJ t=decide Q)(hu:t.used=[])(hb:1≤b)(hd:1≤d){r:Bool}(hr:r=true↔Q):r=true↔yc t b d:=by
 unfold yc;rw[hr,a,qf2,qgf,hu];simp only[zC,zI,decide_eq_true_eq];constructor;intro h;exact⟨h,by omega,by omega⟩;intro h;exact h.1
theorem qsu{t:T}(hu:t.used=[]):z8 t=1:=by rw[qf2,hu];rfl
theorem zcM{t:T}{b d:Int}(e:t.k=2):yc t b d↔(yL t=true∧yd t.ar (b-1) (d-1)):=by
 have hu:t.used=t.ar:=by unfold T.used;rw[if_pos e]
 unfold yc yd;rw[qkE e,qf2,qgf,hu,jk];constructor;rintro⟨⟨a,c⟩,f,g⟩;exact⟨a,c,by omega,by omega⟩;rintro⟨a,c,f,g⟩;exact⟨⟨a,c⟩,by omega,by omega⟩
theorem quS(n:Nat)(W:World)(B:Nat)(hB:W.heap.size≤B)
 (Y:Hid (∀(l:List T)(v:Value)(b d:Int)(w:World),wtL l≤n→SlT W l v→Ext W w→Boxed w B 209 (.int .i64 b)→0≤b→b≤1000→d≤1000→0≤d→Calls prog 206 #[.pointer (some ⟨B,0,none⟩),v,.int .i64 d] w (Bud W B (yd l b d) (b-zC l))))
 (t:T) (v:Value) (b d:Int) (w:World) (hn:wtL t.ar≤n) (C:VT W t v) (he:Ext W w) (hb:Boxed w B 209 (.int .i64 b)) (h0:0≤b) (h1:b≤1000) (hd:d≤1000):
 Calls prog 127 #[.pointer (some ⟨B,0,none⟩),v,.int .i64 d] w (Bud W B (yc t b d) (b-z8 t)):=by
 obtain⟨sl,rfl,hs,-⟩:=C.open_;have N:=zH hs;obtain⟨A,c,xs,rfl,hr⟩:=hs;have cB:=hb.cell;have fB:=hb.frozen;have hlt:=hb.lt;have f:Hid (∀o,Ext W ((w.setCell ⟨B,0,none⟩ (.int .i64 (b-1))).alloc o)):=Lib.hid fun o=>Ext.al (Below.setCell he (p:=⟨B,0,none⟩) hB _) _;have g:Hid (∀o,Boxed ((w.setCell ⟨B,0,none⟩ (.int .i64 (b-1))).alloc o) B 209 (.int .i64 (b-1))):=Lib.hid fun o=>(hb.set _).alloc _;have Z:=Lib.hid (qf2 t);have HD:=Lib.hid (qgf t);have E:=Lib.hid hn;clear C hn hr;by_cases hb1:b<1
 · have F:Hid (¬yc t b d):=Lib.hid fun h=>by have:=h.2.1;have:=Z.out;omega
   go_enter func127,Tryz.ntmps127
   go_wp2
   go_ret
   exact Bud.no F.out (f.out _)
 by_cases hd1:d<1
 · have F:Hid (¬yc t b d):=Lib.hid fun h=>by have:=h.2.2;have:=HD.out;omega
   go_enter func127,Tryz.ntmps127
   go_wp2
   go_ret
   exact Bud.no F.out (f.out _)
 have hb2:¬b-1<0:=by omega
 by_cases G:t.k=0
 · have hk:(t.k==0)=true:=by simpa using G
   have F:=Lib.hid (qmb G);have J:Hid (t.used=[]):=Lib.hid (by unfold T.used;rw[if_neg oa]);clear G
   go_enter func127,Tryz.ntmps127
   go_wp2
   all_goals go_ret
   all_goals refine Bud.mk (leaf F.out J.out oa oa ?_) (f.out _) (fun _=>by rw[qsu J.out];exact g.out _)
   all_goals simp[*]
   all_goals omega
 by_cases K:t.k=1
 · have R:(t.k==0)=false:=by simpa using G
   have hk:(t.k==1)=true:=by simpa using K
   have F:=Lib.hid (ql7 K);have J:Hid (t.used=[]):=Lib.hid (by unfold T.used;rw[if_neg oa]);clear G K
   go_enter func127,Tryz.ntmps127
   go_wp2
   all_goals go_ret
   all_goals refine Bud.mk (leaf F.out J.out oa oa ?_) (f.out _) (fun _=>by rw[qsu J.out];exact g.out _)
   all_goals simp[*]
   all_goals omega
 have R:(t.k==0)=false:=by simpa using G
 have hk1:(t.k==1)=false:=by simpa using K
 by_cases I:t.k=2
 · have hk:(t.k==2)=true:=by simpa using I
   have F:=Lib.hid (qkE I);have J:Hid (t.used=t.ar):=Lib.hid (by unfold T.used;rw[if_pos I]);have M:Hid (yc t b d↔(yL t=true∧yd t.ar (b-1) (d-1))):=Lib.hid (zcM I);have HZ:Hid (b-(z8 t:Int)=b-1-zC t.ar):=Lib.hid (by have:=Z.out;rw[J.out]at this;omega);clear G K I;by_cases P:¬t.i=0
   · have hi:=P
     have S:(t.i !=0)=true:=by simpa using hi
     have E:Hid (¬yc t b d):=Lib.hid fun h=>by have:=(M.out.1 h).1;simp[yL,hi]at this
     clear hi P
     go_enter func127,Tryz.ntmps127
     go_wp2
     go_ret
     exact Bud.no E.out (f.out _)
   have hi:t.i=0:=by simpa using P
   clear P;have S:(t.i !=0)=false:=by simpa using hi
   by_cases h6:6<t.ar.length
   · have E:Hid (¬yc t b d):=Lib.hid fun h=>by have:=(M.out.1 h).1;simp[yL,hi]at this;omega
     clear hi
     go_enter func127,Tryz.ntmps127
     go_wp2
     go_ret
     exact Bud.no E.out (f.out _)
   have Q:Hid (yL t=((zaR t.s&&decide (t.ar.length=2))||zR t.s)):=Lib.hid (by unfold yL;rw[decide_eq_true (show t.ar.length≤6 by omega)];simp[hi]);clear hi;have j:=zH (qqN t.s);have z:=zH (qmr t.s);cases hn:zR t.s<;>rw[hn]at j
   · cases L:zaR t.s<;>rw[L]at z
     · have E:Hid (¬yc t b d):=Lib.hid fun h=>by have:=(M.out.1 h).1;rw[Q.out,hn,L]at this;simp at this
       clear hn L
       go_enter func127,Tryz.ntmps127
       go_wp2_with fail
       refine((za j) _).mono ?_;rintro e w1 ⟨v,rfl,C,a⟩;obtain rfl:v=_:=C;have U:=a.cellOf (qgb w _ _ _ _ 2 _ rfl);have z3:=a.cellOf (qgb w _ _ _ _ 3 _ rfl);have m:=zH ((f.out _).tr a)
       go_wp2_with fail
       refine((za z) _).mono ?_;rintro e w2 ⟨rfl,rfl⟩
       go_wp2
       go_ret
       exact Bud.no E.out (za m)
     · by_cases O:t.ar.length=2
       · have V:Hid (yL t=true):=Lib.hid (by rw[Q.out,L];simp[O])
         have X:((t.ar.length:Int)==2)=true:=by simp[O]
         clear hn L O
         go_enter func127,Tryz.ntmps127
         go_wp2_with fail
         refine((za j) _).mono ?_;rintro e w1 ⟨v,rfl,C,a⟩;obtain rfl:v=_:=C;have U:=a.cellOf (qgb w _ _ _ _ 2 _ rfl);have z3:=a.cellOf (qgb w _ _ _ _ 3 _ rfl);have m:=zH ((f.out _).tr a);have H:Hid (Boxed w1 B 209 (.int .i64 (b-1))):=Lib.hid ((a.block B (g.out _).lt).trans (g.out _))
         go_wp2_with fail
         refine((za z) _).mono ?_;rintro e w2 ⟨rfl,rfl⟩
         go_wp2_with fail
         refine(Y.out t.ar _ (b-1) (d-1) _ E.out ((za N)) (za m) H.out oa oa oa oa).mono ?_;rintro e w3 ⟨r,rfl,q,u,x⟩;have q:=zH q;have x:=zH x;have u:=zH u;clear j z
         go_wp2
         go_ret
         refine Bud.mk ?_ (za u) (fun h=>by rw[HZ.out];exact(za x) h);rw[M.out,V.out,za q];simp
       · have E:Hid (¬yc t b d):=Lib.hid fun h=>by have:=(M.out.1 h).1;rw[Q.out,hn,L]at this;simp[O]at this
         have X:((t.ar.length:Int)==2)=false:=by simp;omega
         clear hn L O
         go_enter func127,Tryz.ntmps127
         go_wp2_with fail
         refine((za j) _).mono ?_;rintro e w1 ⟨v,rfl,C,a⟩;obtain rfl:v=_:=C;have U:=a.cellOf (qgb w _ _ _ _ 2 _ rfl);have z3:=a.cellOf (qgb w _ _ _ _ 3 _ rfl);have m:=zH ((f.out _).tr a);have H:Hid (Boxed w1 B 209 (.int .i64 (b-1))):=Lib.hid ((a.block B (g.out _).lt).trans (g.out _))
         go_wp2_with fail
         refine((za z) _).mono ?_;rintro e w2 ⟨rfl,rfl⟩
         go_wp2
         go_ret
         exact Bud.no E.out (za m)
   · have V:Hid (yL t=true):=Lib.hid (by rw[Q.out,hn];simp)
     clear hn
     go_enter func127,Tryz.ntmps127
     go_wp2_with fail
     refine((za j) _).mono ?_;rintro e w1 ⟨v,rfl,C,a⟩;obtain rfl:v=_:=C;have U:=a.cellOf (qgb w _ _ _ _ 2 _ rfl);have z3:=a.cellOf (qgb w _ _ _ _ 3 _ rfl);have m:=zH ((f.out _).tr a);have H:Hid (Boxed w1 B 209 (.int .i64 (b-1))):=Lib.hid ((a.block B (g.out _).lt).trans (g.out _))
     go_wp2_with fail
     refine(Y.out t.ar _ (b-1) (d-1) _ E.out ((za N)) (za m) H.out oa oa oa oa).mono ?_;rintro e w3 ⟨r,rfl,q,u,x⟩;have q:=zH q;have x:=zH x;have u:=zH u;clear j z
     go_wp2
     go_ret
     refine Bud.mk ?_ (za u) (fun h=>by rw[HZ.out];exact(za x) h);rw[M.out,V.out,za q];simp
 have hk2:(t.k==2)=false:=by simpa using I
 have F:Hid (¬yc t b d):=Lib.hid fun h=>by have:=h.1;rw[qlV G K I]at this;simp at this
 clear G K I
 go_enter func127,Tryz.ntmps127
 go_wp2
 go_ret
 exact Bud.no F.out (f.out _)
def AllRel(W:World)(B:Nat)(l:List T)(b d:Int)(v10:Value)(wr:World):Prop:= ∃k:Nat,v10= .int .i64 (k:Int)∧k≤l.length∧Ext W wr∧Hid (yd (l.take k) b d)∧Boxed wr B 209 (.int .i64 (b-zC (l.take k)))
theorem qvh{l:List T}{k:Nat}{t:T}{b d:Int}(e:l[k]? =some t)(h:yd (l.take k) b d):yd (l.take (k+1)) b d↔yc t (b-zC (l.take k)) d:=by
 unfold yd yc at*;rw[qfv e,qkZ,qjq,qmc];simp only[zQ,zC,zI,jk,and_true];obtain⟨f,g,j⟩:=h;constructor;rintro⟨⟨-,a⟩,b,c⟩;exact⟨a,by omega,by omega⟩;rintro⟨a,b,c⟩;exact⟨⟨f,a⟩,by omega,by omega⟩
theorem qu7{l:List T}{k:Nat}{b d:Int}(h:yd l b d):yd (l.take k) b d:=by
 unfold yd at*;rw[←j7 k l,qkZ,qjq,qmc,jk]at h;obtain⟨⟨a,-⟩,c,e⟩:=h;exact⟨a,by omega,by omega⟩
theorem qub(n:Nat)(X:n≤1000000000)(W:World)(B:Nat)
 (L:Hid (∀(t:T)(v:Value)(b d:Int)(w:World),wt t≤n→VT W t v→Ext W w→Boxed w B 209 (.int .i64 b)→0≤b→b≤1000→d≤1000→Calls prog 127 #[.pointer (some ⟨B,0,none⟩),v,.int .i64 d] w (Bud W B (yc t b d) (b-z8 t))))
 (l:List T) (v:Value) (b d:Int) (w:World) (hn:wtL l≤n) (E:SlT W l v) (he:Ext W w) (hb:Boxed w B 209 (.int .i64 b)) (M:0≤b) (Y:b≤1000) (hd:d≤1000) (q:0≤d):
 Calls prog 206 #[.pointer (some ⟨B,0,none⟩),v,.int .i64 d] w (Bud W B (yd l b d) (b-zC l)):=by
 have u:=zH E;obtain⟨A,c,xs,rfl,hr⟩:=E;have N:l.length≤n:=by have:=qhw l;omega
 have O:=Lib.hid hn;clear hr hn
 go_enter func206,Tryz.ntmps206
 go_wp2
 go_loopw [7,10] (fun _ v10 wr=>AllRel W B l b d v10 wr) (fun _ v10 _=>l.length-(intOf v10).toNat)
 case atStart=>exact⟨0,rfl,by omega,he,Lib.hid ⟨rfl,by simpa[zC]using M,by simpa[zI]using q⟩,by simpa[zC]using hb⟩
 case round=>
  obtain⟨k,rfl,Z,f,p,x⟩:=hrel;by_cases hlt:k<l.length
  · obtain⟨t,g⟩:∃t,l[k]? =some t:=⟨l[k],jj hlt⟩
    obtain⟨B2,o,sl,rfl,F,G,H,I,hs,j⟩:=(za u).at_ g;have c0:=f.cellOf F;have c1:=f.cellOf G;have c2:=f.cellOf H;have c3:=f.cellOf I;have z:=zH j;clear F G H I;obtain⟨A2,d2,P,rfl,-⟩:=hs;have J:=Lib.hid (qvh g p.out);have Q:Hid (b-(zC (l.take (k+1)):Int)=b-zC (l.take k)-z8 t):=Lib.hid (by rw[qfv g,qjq];simp only[zC];omega);have R:Hid (wt t≤n):=Lib.hid (by have:=qdT (List.mem_of_getElem? g);have:=O.out;omega);have K:0≤b-(zC (l.take k):Int):=by have:=p.out.2.1;omega
    clear g j;have C:=zH K;clear K
    go_wp2_with fail
    refine(L.out t _ _ d _ R.out (za z) f x (za C) oa hd).mono ?_;rintro e w1 ⟨r,rfl,hr,m,a⟩;have hr:=zH hr;have a:=zH a;cases r
    · have S:Hid (¬yd l b d):=Lib.hid fun h=>by
       have:=(za hr).2 (J.out.1 (qu7 h));simp at this
      go_wp2
      go_ret
      exact Bud.no S.out m
    · have U:Hid (yd (l.take (k+1)) b d):=Lib.hid (J.out.2 ((za hr).1 rfl))
      have V:Boxed w1 B 209 (.int .i64 (b-zC (l.take (k+1)))):=by rw[Q.out];exact(za a) rfl
      go_wp2
      go_roundw
      case rel=>exact⟨k+1,by go_num,by omega,m,U,V⟩
      case measure=>simp[intOf];omega
  · have hl:l.take k=l:=vg oa
    rw[hl]at p x
    go_wp2
    go_ret
    exact Bud.mk (by simpa using p.out) f (fun _=>x)
theorem qoo(W:World)(B:Nat)(a:W.heap.size≤B):∀(n:Nat),n≤1000000000→∀(t:T)(v:Value)(b d:Int)(w:World),wt t≤n→VT W t v→Ext W w→Boxed w B 209 (.int .i64 b)→0≤b→b≤1000→d≤1000→Calls prog 127 #[.pointer (some ⟨B,0,none⟩),v,.int .i64 d] w (Bud W B (yc t b d) (b-z8 t))
 |0,_,t,_,_,_,_,hn,_,_,_,_,_,_=>by rw[qd4]at hn;omega
 |n+1,u,t,v,b,d,w,hn,c,he,hb,e,f,hd=>
  quS n W B a (Lib.hid fun l v b d w g h j m o p q r=>qub n oa W B (Lib.hid (qoo W B a n oa)) l v b d w g h j m o p q r) t v b d w (by rw[qd4]at hn;omega) c he hb e f hd
theorem qxv(W:World)(B:Nat)(e:W.heap.size≤B)(n:Nat)(c:n≤1000000000)(l:List T)(v:Value)(b d:Int)(w:World)(hn:wtL l≤n)(f:SlT W l v)(he:Ext W w)(hb:Boxed w B 209 (.int .i64 b))(g:0≤b)(h:b≤1000)(hd:d≤1000)(a:0≤d):
 Calls prog 206 #[.pointer (some ⟨B,0,none⟩),v,.int .i64 d] w (Bud W B (yd l b d) (b-zC l)):=
 qub n c W B (Lib.hid (qoo W B e n c)) l v b d w hn f he hb g h hd a
noncomputable def zT(t:T):Bool:=zJ t&&decide (z8 t≤200)&&decide (yi t≤20)
theorem qjL(t:T):zT t=true↔yc t 200 20:=by
 unfold zT yc;simp only[jk,decide_eq_true_eq];constructor;rintro⟨⟨a,b⟩,c⟩;exact⟨a,by omega,by omega⟩;rintro⟨a,b,c⟩;exact⟨⟨a,by omega⟩,by omega⟩
theorem zbr(w:World)(o:Obj)(t:TypeId)(v:Value):Boxed ((w.alloc o).alloc (.cells #[v] t)) (w.heap.size+1) t v:=by
 have h:=Boxed.new (w.alloc o) t v;have a:(w.alloc o).heap.size=w.heap.size+1:=by simp
 rwa [a]at h
theorem qvA(n:Nat)(b:n≤1000000000)(t:T)(v:Value)(w:World)(hn:wt t≤n)(a:VT w t v):Calls prog 51 #[v] w (Ret w (Is (.bool (zT t)))):=by
 have d:=zH (fun(w':World)(e:Ext w w')(hb:Boxed w' (w.heap.size+1) 209 (.int .i64 200))=>qoo w (w.heap.size+1) oa n b t v 200 20 w' hn a e hb oa oa oa);have f:=Lib.hid (qjL t);obtain⟨sl,rfl,hs,-⟩:=a.open_;obtain⟨A,c,xs,rfl,-⟩:=hs;clear a hn
 go_enter func51,Tryz.ntmps51
 go_wp2_with fail
 refine((za d) _ (((Ext.rfl' w).al _).al _) (zbr _ _ _ _)).mono ?_;rintro e w1 ⟨r,rfl,hr,he,-⟩;have hr:=zH hr
 go_wp2
 go_ret
 refine Ret.mk ?_ he;show Value.bool _=Value.bool _;congr 1
 rw[jP,f.out,za hr]
theorem qd8(w:World)(cs:Array Value)(t:TypeId)(j:Nat)(u:Value)(h:cs[j]? =some u):(w.alloc (.cells cs t)).cell? ⟨w.heap.size,j,none⟩=some u:=by
 rcases Rd.new w cs t with c|⟨ad,a,d⟩
 rw[←vc,c]at h;simp at h;have:=d j u (by rw[vc];exact h);injection a with a
 subst a;by_cases b:j=0;subst b;simpa[Addr.add]using this;simpa[Addr.add,b]using this
def zbc(w:World)(l:List T)(sl:Value)(v4:Value)(wr:World):Prop:= ∃k:Nat,v4= .int .i64 (k:Int)∧k≤l.length∧Ext w wr∧wr.cell? ⟨w.heap.size,3,none⟩=some sl∧Hid (zQ (l.take k)=true)
theorem qnW{l:List T}{k:Nat}{t:T}(a:l[k]? =some t)(h:zQ (l.take k)=true):zQ (l.take (k+1))=zJ t:=by
 rw[qfv a,qkZ,h];simp[zQ]
theorem qom{l:List T}(k:Nat)(h:zQ l=true):zQ (l.take k)=true:=by
 rw[←j7 k l,qkZ,jk]at h;exact h.1
theorem qxd(n:Nat)(hM:n≤1000000000)(S:Hid (∀(t:T)(v:Value)(w:World),wt t≤n→VT w t v→Calls prog 218 #[v] w (Ret w (Is (.bool (zJ t))))))
 (t:T) (v:Value) (w:World) (hn:wtL t.ar≤n) (B:VT w t v):Calls prog 218 #[v] w (Ret w (Is (.bool (zJ t)))):=by
 obtain⟨sl,rfl,hs,-,-,M⟩:=B.open_;have H:=zH hs;have hz:=Lib.hid M;obtain⟨A,c,xs,rfl,hr⟩:=hs;have R:=Lib.hid hn;clear B hn hr M;by_cases z:t.k=0
 · have N:(t.k==0)=true:=by simpa using z
   have f:=Lib.hid (qmb z);clear z
   go_enter func218,Tryz.ntmps218
   go_wp2
   all_goals go_ret
   all_goals refine Ret.mk (f.out▸?_) ((Ext.rfl' w).al _)
   all_goals refine congrArg Value.bool (jP.2 ?_)
   all_goals simp[*]
   all_goals omega
 by_cases I:t.k=1
 · have U:(t.k==0)=false:=by simpa using z
   have N:(t.k==1)=true:=by simpa using I
   have f:=Lib.hid (ql7 I);clear z I
   go_enter func218,Tryz.ntmps218
   go_wp2
   all_goals go_ret
   all_goals refine Ret.mk (f.out▸?_) ((Ext.rfl' w).al _)
   all_goals refine congrArg Value.bool (jP.2 ?_)
   all_goals simp[*]
   all_goals omega
 have U:(t.k==0)=false:=by simpa using z
 have hk1:(t.k==1)=false:=by simpa using I
 by_cases L:t.k=2
 · have N:(t.k==2)=true:=by simpa using L
   have f:=Lib.hid (qkE L);clear z I L;have J:t.ar.length≤1000000000:=by have:=qhw t.ar;have:=R.out;omega
   have d:=zH (qoa t.s);have g:=zH (qkq t.s hz);by_cases O:¬t.i=0
   · have V:(t.i !=0)=true:=by simpa using O
     have b:Hid (zJ t=false):=Lib.hid (by rw[f.out];simp[yL,O]);clear O
     go_enter func218,Tryz.ntmps218
     go_wp2_with fail
     refine((za d) _).mono ?_;rintro e w1 ⟨rfl,rfl⟩
     go_wp2
     all_goals go_ret
     all_goals exact Ret.mk (b.out▸rfl) ((Ext.rfl' w).al _)
   have hi:t.i=0:=by simpa using O
   clear O;have V:(t.i !=0)=false:=by simpa using hi
   have K:Hid (yL t=((zaR t.s&&decide (t.ar.length=2))||(zR t.s&&decide (t.ar.length≤6)))):=Lib.hid (by unfold yL;simp[hi]);clear hi;cases m:zaR t.s<;>rw[m]at d
   · cases hn:zR t.s<;>rw[hn]at g
     · have b:Hid (zJ t=false):=Lib.hid (by rw[f.out,K.out,m,hn];rfl)
       clear m hn
       go_enter func218,Tryz.ntmps218
       go_wp2_with fail
       refine((za d) _).mono ?_;rintro e w1 ⟨rfl,rfl⟩
       go_wp2_with fail
       refine((za g) _).mono ?_;rintro e w1 ⟨rfl,rfl⟩
       go_wp2
       go_ret
       exact Ret.mk (b.out▸rfl) ((Ext.rfl' w).al _)
     · by_cases h6:6<t.ar.length
       · have b:Hid (zJ t=false):=Lib.hid (by rw[f.out,K.out,m,hn,decide_eq_false (show¬t.ar.length≤6 by omega)];rfl)
         clear m hn
         go_enter func218,Tryz.ntmps218
         go_wp2_with fail
         refine((za d) _).mono ?_;rintro e w1 ⟨rfl,rfl⟩
         go_wp2_with fail
         refine((za g) _).mono ?_;rintro e w1 ⟨rfl,rfl⟩
         go_wp2
         go_ret
         exact Ret.mk (b.out▸rfl) ((Ext.rfl' w).al _)
       · have C:Hid (yL t=true):=Lib.hid (by rw[K.out,m,hn,decide_eq_true (show t.ar.length≤6 by omega)];rfl)
         clear m hn
         go_enter func218,Tryz.ntmps218
         go_wp2_with fail
         refine((za d) _).mono ?_;rintro e w1 ⟨rfl,rfl⟩
         go_wp2_with fail
         refine((za g) _).mono ?_;rintro e w1 ⟨rfl,rfl⟩
         go_wp2
         go_loopw [4] (fun v4 wr=>zbc w t.ar (.slice A t.ar.length c) v4 wr) (fun v4 _=>t.ar.length-(intOf v4).toNat)
         case atStart=>exact⟨0,rfl,by omega,(Ext.rfl' w).al _,qd8 w _ _ 3 _ rfl,Lib.hid rfl⟩
         case round=>
          obtain⟨k,rfl,N,q,z3,E⟩:=hrel;by_cases hlt:k<t.ar.length
          · obtain⟨u,hu⟩:∃u,t.ar[k]? =some u:=⟨t.ar[k],jj hlt⟩
            obtain⟨X,o,sl,rfl,c0,Y,Z,c3,hs,a⟩:=(SlT.ext (za H) q:SlT wr t.ar _).at_ hu;have a:=zH a;obtain⟨A2,d2,P,rfl,-⟩:=hs;have F:=Lib.hid (qnW hu E.out);have Q:Hid (wt u≤n):=Lib.hid (by have:=qdT (List.mem_of_getElem? hu);have:=R.out;omega);clear hu;have hlen:=zH J
            go_wp2_with fail
            refine(S.out u _ _ Q.out (za a)).mono ?_;rintro e w1 ⟨v,rfl,B,j⟩;obtain rfl:v=_:=B;have l:=q.tr j;have r:=j.cellOf z3;cases p:zJ u
            · have b:Hid (zJ t=false):=Lib.hid (by
               rw[f.out,C.out,vp];cases h:zQ t.ar
               · rfl
               · have:=qom (k+1) h;rw[F.out,p]at this;simp at this)
              clear p
              go_wp2
              go_ret
              exact Ret.mk (b.out▸rfl) l
            · have x:Hid (zQ (t.ar.take (k+1))=true):=Lib.hid (F.out.trans p)
              clear p
              go_wp2
              go_roundw
              case rel=>exact⟨k+1,by go_num,by omega,l,r,x⟩
              case measure=>simp[intOf];omega
          · have b:Hid (zJ t=true):=Lib.hid (by
             rw[f.out,C.out,vp];have:=E.out
             rwa [vg oa]at this)
            go_wp2
            go_ret
            exact Ret.mk (b.out▸rfl) q
   · by_cases G:t.ar.length=2
     · have C:Hid (yL t=true):=Lib.hid (by rw[K.out,m];simp[G])
       have W:((t.ar.length:Int)==2)=true:=by simp[G]
       clear m G
       go_enter func218,Tryz.ntmps218
       go_wp2_with fail
       refine((za d) _).mono ?_;rintro e w1 ⟨rfl,rfl⟩
       go_wp2
       go_loopw [4] (fun v4 wr=>zbc w t.ar (.slice A t.ar.length c) v4 wr) (fun v4 _=>t.ar.length-(intOf v4).toNat)
       case atStart=>exact⟨0,rfl,by omega,(Ext.rfl' w).al _,qd8 w _ _ 3 _ rfl,Lib.hid rfl⟩
       case round=>
        obtain⟨k,rfl,N,q,z3,E⟩:=hrel;by_cases hlt:k<t.ar.length
        · obtain⟨u,hu⟩:∃u,t.ar[k]? =some u:=⟨t.ar[k],jj hlt⟩
          obtain⟨X,o,sl,rfl,c0,Y,Z,c3,hs,a⟩:=(SlT.ext (za H) q:SlT wr t.ar _).at_ hu;have a:=zH a;obtain⟨A2,d2,P,rfl,-⟩:=hs;have F:=Lib.hid (qnW hu E.out);have Q:Hid (wt u≤n):=Lib.hid (by have:=qdT (List.mem_of_getElem? hu);have:=R.out;omega);clear hu;have hlen:=zH J
          go_wp2_with fail
          refine(S.out u _ _ Q.out (za a)).mono ?_;rintro e w1 ⟨v,rfl,B,j⟩;obtain rfl:v=_:=B;have l:=q.tr j;have r:=j.cellOf z3;cases p:zJ u
          · have b:Hid (zJ t=false):=Lib.hid (by
             rw[f.out,C.out,vp];cases h:zQ t.ar
             · rfl
             · have:=qom (k+1) h;rw[F.out,p]at this;simp at this)
            clear p
            go_wp2
            go_ret
            exact Ret.mk (b.out▸rfl) l
          · have x:Hid (zQ (t.ar.take (k+1))=true):=Lib.hid (F.out.trans p)
            clear p
            go_wp2
            go_roundw
            case rel=>exact⟨k+1,by go_num,by omega,l,r,x⟩
            case measure=>simp[intOf];omega
        · have b:Hid (zJ t=true):=Lib.hid (by
           rw[f.out,C.out,vp];have:=E.out
           rwa [vg oa]at this)
          go_wp2
          go_ret
          exact Ret.mk (b.out▸rfl) q
     · have W:((t.ar.length:Int)==2)=false:=by simp;omega
       cases hn:zR t.s<;>rw[hn]at g
       · have b:Hid (zJ t=false):=Lib.hid (by rw[f.out,K.out,m,hn];simp[G])
         clear m hn G
         go_enter func218,Tryz.ntmps218
         go_wp2_with fail
         refine((za d) _).mono ?_;rintro e w1 ⟨rfl,rfl⟩
         go_wp2_with fail
         refine((za g) _).mono ?_;rintro e w1 ⟨rfl,rfl⟩
         go_wp2
         go_ret
         exact Ret.mk (b.out▸rfl) ((Ext.rfl' w).al _)
       · by_cases h6:6<t.ar.length
         · have b:Hid (zJ t=false):=Lib.hid (by rw[f.out,K.out,m,hn,decide_eq_false (show¬t.ar.length≤6 by omega)];simp[G])
           clear m hn G
           go_enter func218,Tryz.ntmps218
           go_wp2_with fail
           refine((za d) _).mono ?_;rintro e w1 ⟨rfl,rfl⟩
           go_wp2_with fail
           refine((za g) _).mono ?_;rintro e w1 ⟨rfl,rfl⟩
           go_wp2
           go_ret
           exact Ret.mk (b.out▸rfl) ((Ext.rfl' w).al _)
         · have C:Hid (yL t=true):=Lib.hid (by rw[K.out,m,hn,decide_eq_true (show t.ar.length≤6 by omega)];simp)
           clear m hn G
           go_enter func218,Tryz.ntmps218
           go_wp2_with fail
           refine((za d) _).mono ?_;rintro e w1 ⟨rfl,rfl⟩
           go_wp2_with fail
           refine((za g) _).mono ?_;rintro e w1 ⟨rfl,rfl⟩
           go_wp2
           go_loopw [4] (fun v4 wr=>zbc w t.ar (.slice A t.ar.length c) v4 wr) (fun v4 _=>t.ar.length-(intOf v4).toNat)
           case atStart=>exact⟨0,rfl,by omega,(Ext.rfl' w).al _,qd8 w _ _ 3 _ rfl,Lib.hid rfl⟩
           case round=>
            obtain⟨k,rfl,N,q,z3,E⟩:=hrel;by_cases hlt:k<t.ar.length
            · obtain⟨u,hu⟩:∃u,t.ar[k]? =some u:=⟨t.ar[k],jj hlt⟩
              obtain⟨X,o,sl,rfl,c0,Y,Z,c3,hs,a⟩:=(SlT.ext (za H) q:SlT wr t.ar _).at_ hu;have a:=zH a;obtain⟨A2,d2,P,rfl,-⟩:=hs;have F:=Lib.hid (qnW hu E.out);have Q:Hid (wt u≤n):=Lib.hid (by have:=qdT (List.mem_of_getElem? hu);have:=R.out;omega);clear hu;have hlen:=zH J
              go_wp2_with fail
              refine(S.out u _ _ Q.out (za a)).mono ?_;rintro e w1 ⟨v,rfl,B,j⟩;obtain rfl:v=_:=B;have l:=q.tr j;have r:=j.cellOf z3;cases p:zJ u
              · have b:Hid (zJ t=false):=Lib.hid (by
                 rw[f.out,C.out,vp];cases h:zQ t.ar
                 · rfl
                 · have:=qom (k+1) h;rw[F.out,p]at this;simp at this)
                clear p
                go_wp2
                go_ret
                exact Ret.mk (b.out▸rfl) l
              · have x:Hid (zQ (t.ar.take (k+1))=true):=Lib.hid (F.out.trans p)
                clear p
                go_wp2
                go_roundw
                case rel=>exact⟨k+1,by go_num,by omega,l,r,x⟩
                case measure=>simp[intOf];omega
            · have b:Hid (zJ t=true):=Lib.hid (by
               rw[f.out,C.out,vp];have:=E.out
               rwa [vg oa]at this)
              go_wp2
              go_ret
              exact Ret.mk (b.out▸rfl) q
 have hk2:(t.k==2)=false:=by simpa using L
 have f:=Lib.hid (qlV z I L);clear z I L
 go_enter func218,Tryz.ntmps218
 go_wp2
 go_ret
 exact Ret.mk (f.out▸rfl) ((Ext.rfl' w).al _)
theorem qtA:∀(n:Nat),n≤1000000000→∀(t:T)(v:Value)(w:World),wt t≤n→VT w t v→Calls prog 218 #[v] w (Ret w (Is (.bool (zJ t))))
 |0,_,t,_,_,hn,_=>by rw[qd4]at hn;omega
 |n+1,b,t,v,w,hn,a=>qxd n oa (Lib.hid (qtA n oa)) t v w (by rw[qd4]at hn;omega) a
theorem qmp(n:Nat)(l:n≤1000000000)(t:T)(v:Value)(w:World)(hn:wt t≤n)(d:VT w t v):Calls prog 152 #[v] w (Ret w (Is (.bool (zT t)))):=by
 have m:=zH (fun(w':World)(e:Ext w w')=>qtA n l t v w' hn (d.ext e));have q:=zH (fun(w':World)(e:Ext w w')=>qiv n t v w' hn l (d.ext e));have E:=zH (fun(w':World)(e:Ext w w')=>qmn n t v w' hn l (d.ext e));obtain⟨sl,rfl,hs,-⟩:=d.open_;obtain⟨A,c,xs,rfl,-⟩:=hs;have z0:=qd8 w #[.int .i64 t.k,.int .i64 t.i,.string t.s,.slice A t.ar.length c] 77 0 _ rfl;have r:=qd8 w #[.int .i64 t.k,.int .i64 t.i,.string t.s,.slice A t.ar.length c] 77 1 _ rfl;have u:=qd8 w #[.int .i64 t.k,.int .i64 t.i,.string t.s,.slice A t.ar.length c] 77 2 _ rfl;have z3:=qd8 w #[.int .i64 t.k,.int .i64 t.i,.string t.s,.slice A t.ar.length c] 77 3 _ rfl;have j:Hid (zT t=(zJ t&&decide (z8 t≤200)&&decide (yi t≤20))):=Lib.hid rfl;clear d hn;cases o:zJ t<;>rw[o]at m j
 · have g:Hid (zT t=false):=Lib.hid (by rw[j.out];rfl)
   clear o
   go_enter func152,Tryz.ntmps152
   go_wp2_with fail
   refine((za m) _ ((Ext.rfl' w).al _)).mono ?_;rintro e w1 ⟨v,rfl,d,a⟩;obtain rfl:v=_:=d
   go_wp2
   go_ret
   exact Ret.mk (g.out▸rfl) (((Ext.rfl' w).al _).tr a)
 · clear o
   go_enter func152,Tryz.ntmps152
   go_wp2_with fail
   refine((za m) _ ((Ext.rfl' w).al _)).mono ?_;rintro e w1 ⟨v,rfl,d,a⟩;obtain rfl:v=_:=d;have x:=a.cellOf z0;have z:=a.cellOf r;have B:=a.cellOf u;have C:=a.cellOf z3;have f:=((Ext.rfl' w).al _).tr a;clear a z0 r u z3;by_cases hs:(z8 t:Int)≤200
   · go_wp2_with fail
     refine((za q) _ f).mono ?_;rintro e F ⟨v,rfl,d,b⟩;obtain rfl:v=_:=d;have G:=b.cellOf x;have u1:=b.cellOf z;have u2:=b.cellOf B;have u3:=b.cellOf C;have h:=f.tr b;clear b x z B C f
     go_wp2_with fail
     refine((za E) _ h).mono ?_;rintro e H ⟨v,rfl,d,p⟩;obtain rfl:v=_:=d;have g:Hid (zT t=decide ((yi t:Int)≤20)):=Lib.hid (by rw[j.out,decide_eq_true (show z8 t≤200 by omega),vp,vp,jP];simp only[decide_eq_true_eq];omega)
     go_wp2
     go_ret
     exact Ret.mk (g.out▸rfl) (h.tr p)
   · have g:Hid (zT t=false):=Lib.hid (by rw[j.out,decide_eq_false (show¬z8 t≤200 by omega)];rfl)
     go_wp2_with fail
     refine((za q) _ f).mono ?_;rintro e F ⟨v,rfl,d,b⟩;obtain rfl:v=_:=d
     go_wp2
     go_ret
     exact Ret.mk (g.out▸rfl) (f.tr b)
noncomputable def yj(ts:List T):Bool:=zQ ts&&decide (zC ts≤200)&&decide (zI ts≤20)
theorem qj0(ts:List T):yj ts=true↔yd ts 200 20:=by
 unfold yj yd;simp only[jk,decide_eq_true_eq];constructor;rintro⟨⟨a,b⟩,c⟩;exact⟨a,by omega,by omega⟩;rintro⟨a,b,c⟩;exact⟨⟨a,by omega⟩,by omega⟩
noncomputable def zas(ts:List T):Bool:=ts.all zT
theorem qwd(a b:List T):zas (a++b)=(zas a&&zas b):=by unfold zas;exact List.all_append ..
theorem qnv:∀ts:List T,yj ts=(zas ts&&decide (zC ts≤200))
 |[]=>by simp[yj,zas,zQ,zC,zI]
 |t::ts=>by
  have d:=qnv ts;rw[jP]at d⊢;unfold yj zas at*;simp only[zQ,zT,Jk,jk,decide_eq_true_eq]at d⊢;simp only[zC,zI];constructor;rintro⟨⟨⟨a,b⟩,c⟩,e⟩;have:=d.1 ⟨⟨b,by omega⟩,by omega⟩;exact⟨⟨⟨⟨a,by omega⟩,by omega⟩,this.1⟩,c⟩;rintro⟨⟨⟨⟨a,b⟩,c⟩,e⟩,f⟩;have:=d.2 ⟨e,by omega⟩;exact⟨⟨⟨a,this.1.1⟩,f⟩,by omega⟩
def zcO(w:World)(l:List T)(v3 v4:Value)(wr:World):Prop:= ∃k:Nat,v3= .int .i64 (zC (l.take k):Nat)∧v4= .int .i64 (k:Int)∧k≤l.length∧Ext w wr∧Hid (zas (l.take k)=true)
theorem qmo(n:Nat)(C:n≤1000000000)(l:List T)(v:Value)(w:World)(hn:wtL l≤n)(d:SlT w l v):Calls prog 159 #[v] w (Ret w (Is (.bool (yj l)))):=by
 have p:=zH d;obtain⟨A,c,xs,rfl,hr⟩:=d;have L:l.length≤n:=by have:=qhw l;omega
 have E:=Lib.hid hn;have F:=Lib.hid (qnv l);clear hr hn
 go_enter func159,Tryz.ntmps159
 go_wp2
 go_loopw [3,4] (fun v3 v4 wr=>zcO w l v3 v4 wr) (fun _ v4 _=>l.length-(intOf v4).toNat)
 case atStart=>exact⟨0,rfl,rfl,by omega,Ext.rfl' w,Lib.hid rfl⟩
 case round=>
  obtain⟨k,rfl,rfl,R,q,G⟩:=hrel;have M:zC (l.take k)≤1000000000:=by
   have r:=qsJ l k;have S:=qm5 (l.take k);have U:=E.out;omega
  by_cases hlt:k<l.length
  · obtain⟨t,j⟩:∃t,l[k]? =some t:=⟨l[k],jj hlt⟩
    obtain⟨V,o,sl,rfl,c0,H,I,J,hs,b⟩:=(SlT.ext (za p) q:SlT wr l _).at_ j;have b:=zH b;obtain⟨W,d2,N,rfl,-⟩:=hs;have K:=Lib.hid (qfv j);have hm:=List.mem_of_getElem? j;have u:Hid (wt t≤n):=Lib.hid (by have:=qdT hm;have:=E.out;omega);have O:Hid (zT t=false→yj l=false):=Lib.hid fun h=>by
     rw[F.out];have:zas l=false:=by
      unfold zas;rw[List.all_eq_false];exact⟨t,hm,by rw[h];simp⟩
     rw[this];rfl
    clear j hm;have P:z8 t≤1000000000:=by have:=qqJ t;have:=u.out;omega
    go_wp2_with fail
    refine(qmp n C t _ _ u.out (za b)).mono ?_;rintro e w1 ⟨v,rfl,d,a⟩;obtain rfl:v=_:=d;have f:=q.tr a;have d0:=a.cellOf c0;have d1:=a.cellOf H;have d2:=a.cellOf I;have d3:=a.cellOf J;have g:=zH ((za b).ext a);clear b c0 H I J;cases m:zT t
    · have x:=Lib.hid (O.out m)
      clear m
      go_wp2
      go_ret
      exact Ret.mk (x.out▸rfl) f
    · have Q:Hid (zas (l.take (k+1))=true):=Lib.hid (by rw[K.out,qwd,G.out];simp[zas,m])
      clear m
      go_wp2_with fail
      refine(qiv n t _ _ u.out C (za g)).mono ?_;rintro e X ⟨v,rfl,d,z⟩;obtain rfl:v=_:=d;have B:=f.tr z
      go_wp2
      go_roundw
      case rel=>exact⟨k+1,congrArg (Value.int .i64) (show _=((zC (l.take (k+1)):Nat):Int) by rw[K.out,qjq];simp only[zC];omega),by go_num,by omega,B,Q⟩
      case measure=>simp[intOf];omega
  · have x:Hid (yj l=decide ((zC (l.take k):Int)≤200)):=Lib.hid (by
     have r:=G.out;rw[vg oa]at r⊢;rw[F.out,r,vp,jP];simp only[decide_eq_true_eq];omega)
    go_wp2
    go_ret
    exact Ret.mk (x.out▸rfl) q
structure At where
 n:ByteArray
 ts:List T
structure Gl where
 op:Int
 n:ByteArray
 ts:List T
def CA(w:World)(a:At)(cs:List Value):Prop:=∃sl,cs=[.string a.n,sl]∧SlT w a.ts sl∧a.n.size≤9223372036854775807
def CG(w:World)(g:Gl)(cs:List Value):Prop:=∃sl,cs=[.int .i64 g.op,.string g.n,sl]∧SlT w g.ts sl∧I64 g.op∧g.n.size≤9223372036854775807
def VA(w:World)(a:At)(v:Value):Prop:=∃cs,v= .agg cs.toArray∧CA w a cs
def VG(w:World)(g:Gl)(v:Value):Prop:=∃cs,v= .agg cs.toArray∧CG w g cs
theorem VA.open_{w:World}{a:At}{v:Value}(h:VA w a v):∃sl,v= .agg #[.string a.n,sl]∧SlT w a.ts sl∧a.n.size≤9223372036854775807:=by
 obtain⟨cs,rfl,sl,rfl,b,c⟩:=h;exact⟨sl,rfl,b,c⟩
theorem VG.open_{w:World}{g:Gl}{v:Value}(h:VG w g v):∃sl,v= .agg #[.int .i64 g.op,.string g.n,sl]∧SlT w g.ts sl∧I64 g.op∧g.n.size≤9223372036854775807:=by
 obtain⟨cs,rfl,sl,rfl,a,b,c⟩:=h;exact⟨sl,rfl,a,b,c⟩
theorem VA.mk{w:World}{n:ByteArray}{ts:List T}{sl:Value}(h:SlT w ts sl)(hs:n.size≤9223372036854775807):VA w ⟨n,ts⟩ (.agg #[.string n,sl]):=⟨[.string n,sl],rfl,sl,rfl,h,hs⟩
theorem CA.ext{w w':World}{a:At}{cs:List Value}(h:CA w a cs)(e:Ext w w'):CA w' a cs:=let⟨sl,b,c,d⟩:=h;⟨sl,b,c.ext e,d⟩
theorem VA.ext{w w':World}{a:At}{v:Value}(h:VA w a v)(e:Ext w w'):VA w' a v:=let⟨cs,b,c⟩:=h;⟨cs,b,c.ext e⟩
noncomputable def zn(a:At):Bool:=zR a.n&&decide (a.ts.length≤6)&&yj a.ts
def zO(op:Int):Int:=if op=1∨op=2 then 0 else if op=11∨op=12 then 1 else if 2<op∧op<11 then 2 else-1
noncomputable def zu(g:Gl):Bool:=if g.op=0 then zn ⟨g.n,g.ts⟩else decide (g.n.toList=[])&&decide (zO g.op=(g.ts.length:Int))&&yj g.ts
theorem qkS(n:Nat)(u:n≤1000000000)(a:At)(v:Value)(w:World)(hn:wtL a.ts≤n)(f:VA w a v):Calls prog 125 #[v] w (Ret w (Is (.bool (zn a)))):=by
 obtain⟨sl,rfl,hs,-⟩:=f.open_;have x:=zH (fun(w':World)(e:Ext w w')(hb:Boxed w' (w.heap.size+1) 209 (.int .i64 200))=>qxv w (w.heap.size+1) oa n u a.ts sl 200 20 w' hn hs e hb oa oa oa oa);obtain⟨A,c,xs,rfl,-⟩:=hs;have d:=zH (qqN a.n);clear f hn;by_cases g:zR a.n
 · rw[g]at d
   by_cases p:a.ts.length≤6
   · have l:Hid (zn a=yj a.ts):=Lib.hid (by unfold zn;simp[g,p])
     have z:=Lib.hid (qj0 a.ts);have q:(a.ts.length:Int)≤6:=by omega
     clear g p
     go_enter func125,Tryz.ntmps125
     go_wp2_with fail
     have h:=zbr w (.cells #[.string a.n,.slice A a.ts.length c] 81) 209 (.int .i64 200);refine((za d) _).mono ?_;rintro e w1 ⟨v,rfl,f,b⟩;obtain rfl:v=_:=f;have B:=b.cellOf (((Ext.rfl' _).al _).cellOf (qd8 w #[.string a.n,.slice A a.ts.length c] 81 1 _ rfl));have t:=(b.block _ h.lt).trans h;have m:=zH ((((Ext.rfl' w).al _).al _).tr b);clear h b
     go_wp2_with fail
     refine((za x) _ (za m) t).mono ?_;rintro e C ⟨r,rfl,hr,j,-⟩;have hr:=zH hr;have j:=zH j
     go_wp2
     go_ret
     refine Ret.mk ?_ (za j);show Value.bool _=Value.bool _;congr 1
     rw[l.out,jP,z.out,za hr]
   · have l:Hid (zn a=false):=Lib.hid (by unfold zn;simp[p])
     have q:¬(a.ts.length:Int)≤6:=by omega
     clear g p
     go_enter func125,Tryz.ntmps125
     go_wp2_with fail
     refine((za d) _).mono ?_;rintro e w1 ⟨v,rfl,f,b⟩;obtain rfl:v=_:=f;have B:=b.cellOf (((Ext.rfl' _).al _).cellOf (qd8 w #[.string a.n,.slice A a.ts.length c] 81 1 _ rfl));have m:=zH ((((Ext.rfl' w).al _).al _).tr b);clear b
     go_wp2
     go_ret
     exact Ret.mk (l.out▸rfl) (za m)
 · have o:zR a.n=false:=by simpa using g
   rw[o]at d;have l:Hid (zn a=false):=Lib.hid (by unfold zn;simp[g]);clear g o
   go_enter func125,Tryz.ntmps125
   go_wp2_with fail
   refine((za d) _).mono ?_;rintro e w1 ⟨v,rfl,f,b⟩;obtain rfl:v=_:=f;have m:=zH ((((Ext.rfl' w).al _).al _).tr b);clear b
   go_wp2
   go_ret
   exact Ret.mk (l.out▸rfl) (za m)
theorem qoC(n:Nat)(F:n≤1000000000)(g:Gl)(v:Value)(w:World)(hn:wtL g.ts≤n)(C:VG w g v)(q:g.op≠0):Calls prog 172 #[v] w (Ret w (Is (.bool (zu g)))):=by
 obtain⟨sl,rfl,hs,-⟩:=C.open_;obtain⟨A,c,xs,rfl,hr⟩:=hs;have t:=zH (fun(L:Nat)(G:g.ts.length=L)(w':World)(e:Ext w w')(hb:Boxed w' (w.heap.size+1) 209 (.int .i64 200))=>qxv w (w.heap.size+1) oa n F g.ts (.slice A L c) 200 20 w' hn ⟨A,c,xs,by rw[G],hr⟩ e hb oa oa oa oa);have p:=zH (fun o=>zbr w o 209 (.int .i64 200));have j:=zH (fun o=>((Ext.rfl' w).al o).al (.cells #[.int .i64 200] 209));have E:Hid (zu g=(decide (g.n.toList=[])&&decide (zO g.op=(g.ts.length:Int))&&yj g.ts)):=Lib.hid (by unfold zu;rw[if_neg q]);have H:=Lib.hid (qj0 g.ts);have m:Hid (¬(zO g.op=(g.ts.length:Int)∧g.n.toList=[])→zu g=false):=Lib.hid fun h=>by
  rw[E.out];by_cases a:zO g.op=(g.ts.length:Int)
  · have f:¬g.n.toList=[]:=fun f=>h ⟨a,f⟩
    simp[f]
  · simp[a]
 have u:Hid (∀r:Bool,zO g.op=(g.ts.length:Int)→g.n.toList=[]→(r=true↔yd g.ts 200 20)→r=zu g):=Lib.hid fun r a f I=>by
  rw[E.out,jP,I,←H.out];simp[a,f]
 have J:(g.op==0)=false:=by simpa using q
 clear C hn hr;by_cases k:g.op=1
 · have l:Hid (zO g.op=0):=Lib.hid (by rw[k];decide)
   have B:(g.op==1)=true:=by simpa using k
   have x:0<g.op:=by omega
   have hq:g.op≤12:=by omega
   clear q k
   go_enter func172,Tryz.ntmps172
   go_wp2_with fail
   · have a:g.n.toList=[]:=by assumption
     refine((za t) _ (by simp[*]) _ ((za j) _) ((za p) _)).mono ?_;rintro e z ⟨r,rfl,hr,b,-⟩;have hr:=zH hr;have b:=zH b;have d:=Lib.hid (u.out r (by rw[l.out];simp[*]) a (za hr))
     go_wp2
     go_ret
     exact Ret.mk (d.out▸rfl) (za b)
   · rename_i a f
     have d:=Lib.hid (m.out fun h=>by have:=h.1;rw[l.out]at this;first|omega|exact f (JN.1 oa));clear a f
     go_ret
     exact Ret.mk (d.out▸rfl) ((za j) _)
   · rename_i a
     have d:=Lib.hid (m.out fun h=>a h.2);clear a
     go_ret
     exact Ret.mk (d.out▸rfl) ((za j) _)
 by_cases k:g.op=2
 · have l:Hid (zO g.op=0):=Lib.hid (by rw[k];decide)
   have B:(g.op==2)=true:=by simpa using k
   have x:0<g.op:=by omega
   have hq:g.op≤12:=by omega
   clear q k
   go_enter func172,Tryz.ntmps172
   go_wp2_with fail
   · have a:g.n.toList=[]:=by assumption
     refine((za t) _ (by simp[*]) _ ((za j) _) ((za p) _)).mono ?_;rintro e z ⟨r,rfl,hr,b,-⟩;have hr:=zH hr;have b:=zH b;have d:=Lib.hid (u.out r (by rw[l.out];simp[*]) a (za hr))
     go_wp2
     go_ret
     exact Ret.mk (d.out▸rfl) (za b)
   · rename_i a f
     have d:=Lib.hid (m.out fun h=>by have:=h.1;rw[l.out]at this;first|omega|exact f (JN.1 oa));clear a f
     go_ret
     exact Ret.mk (d.out▸rfl) ((za j) _)
   · rename_i a
     have d:=Lib.hid (m.out fun h=>a h.2);clear a
     go_ret
     exact Ret.mk (d.out▸rfl) ((za j) _)
 by_cases k:g.op=11
 · have l:Hid (zO g.op=1):=Lib.hid (by rw[k];decide)
   have B:(g.op==11)=true:=by simpa using k
   have x:0<g.op:=by omega
   have hq:g.op≤12:=by omega
   clear q k
   go_enter func172,Tryz.ntmps172
   go_wp2_with fail
   · have a:g.n.toList=[]:=by assumption
     refine((za t) _ (by simp[*]) _ ((za j) _) ((za p) _)).mono ?_;rintro e z ⟨r,rfl,hr,b,-⟩;have hr:=zH hr;have b:=zH b;have d:=Lib.hid (u.out r (by rw[l.out];simp[*]) a (za hr))
     go_wp2
     go_ret
     exact Ret.mk (d.out▸rfl) (za b)
   · rename_i a f
     have d:=Lib.hid (m.out fun h=>by have:=h.1;rw[l.out]at this;first|omega|exact f (JN.1 oa));clear a f
     go_ret
     exact Ret.mk (d.out▸rfl) ((za j) _)
   · rename_i a
     have d:=Lib.hid (m.out fun h=>a h.2);clear a
     go_ret
     exact Ret.mk (d.out▸rfl) ((za j) _)
 by_cases k:g.op=12
 · have l:Hid (zO g.op=1):=Lib.hid (by rw[k];decide)
   have B:(g.op==12)=true:=by simpa using k
   have x:0<g.op:=by omega
   have hq:g.op≤12:=by omega
   clear q k
   go_enter func172,Tryz.ntmps172
   go_wp2_with fail
   · have a:g.n.toList=[]:=by assumption
     refine((za t) _ (by simp[*]) _ ((za j) _) ((za p) _)).mono ?_;rintro e z ⟨r,rfl,hr,b,-⟩;have hr:=zH hr;have b:=zH b;have d:=Lib.hid (u.out r (by rw[l.out];simp[*]) a (za hr))
     go_wp2
     go_ret
     exact Ret.mk (d.out▸rfl) (za b)
   · rename_i a f
     have d:=Lib.hid (m.out fun h=>by have:=h.1;rw[l.out]at this;first|omega|exact f (JN.1 oa));clear a f
     go_ret
     exact Ret.mk (d.out▸rfl) ((za j) _)
   · rename_i a
     have d:=Lib.hid (m.out fun h=>a h.2);clear a
     go_ret
     exact Ret.mk (d.out▸rfl) ((za j) _)
 have K:(g.op==1)=false:=by simp;omega
 have M:(g.op==2)=false:=by simp;omega
 have N:(g.op==11)=false:=by simp;omega
 have O:(g.op==12)=false:=by simp;omega
 by_cases x:0<g.op
 · by_cases hq:g.op≤12
   · have l:Hid (zO g.op=2):=Lib.hid (by unfold zO;rw[if_neg oa,if_neg oa,if_pos oa])
     clear q
     go_enter func172,Tryz.ntmps172
     go_wp2_with fail
     · have a:g.n.toList=[]:=by assumption
       refine((za t) _ oa _ ((za j) _) ((za p) _)).mono ?_;rintro e z ⟨r,rfl,hr,b,-⟩;have hr:=zH hr;have b:=zH b;have d:=Lib.hid (u.out r (by rw[l.out];omega) a (za hr))
       go_wp2
       go_ret
       exact Ret.mk (d.out▸rfl) (za b)
     · rename_i a f
       have d:=Lib.hid (m.out fun h=>by have:=h.1;rw[l.out]at this;omega);clear a f
       go_ret
       exact Ret.mk (d.out▸rfl) ((za j) _)
     · rename_i a
       have d:=Lib.hid (m.out fun h=>a h.2);clear a
       go_ret
       exact Ret.mk (d.out▸rfl) ((za j) _)
   · have d:=Lib.hid (m.out fun h=>by
      have:=h.1;unfold zO at this;rw[if_neg oa,if_neg oa,if_neg oa]at this;omega)
     clear q
     go_enter func172,Tryz.ntmps172
     go_wp2
     go_ret
     exact Ret.mk (d.out▸rfl) ((za j) _)
 · have d:=Lib.hid (m.out fun h=>by
    have:=h.1;unfold zO at this;rw[if_neg oa,if_neg oa,if_neg oa]at this;omega)
   clear q
   go_enter func172,Tryz.ntmps172
   go_wp2
   go_ret
   exact Ret.mk (d.out▸rfl) ((za j) _)
theorem qqk(n:Nat)(d:n≤1000000000)(g:Gl)(v:Value)(w:World)(hn:wtL g.ts≤n)(a:VG w g v):Calls prog 172 #[v] w (Ret w (Is (.bool (zu g)))):=by
 by_cases b:g.op=0
 · have j:Hid (zu g=zn ⟨g.n,g.ts⟩):=Lib.hid (by unfold zu;rw[if_pos b])
   obtain⟨sl,rfl,hs,l,f⟩:=a.open_;have m:=zH (fun(w':World)(e:Ext w w')=>qkS n d ⟨g.n,g.ts⟩ _ w' hn (VA.mk (hs.ext e) f));have h:=zH (fun o=>(Ext.rfl' w).al o);obtain⟨A,c,xs,rfl,-⟩:=hs;have p:(g.op==0)=true:=by simpa using b
   clear b a hn l f
   go_enter func172,Tryz.ntmps172
   go_wp2_with fail
   refine((za m) _ ((za h) _)).mono ?_;rintro e w1 ⟨v,rfl,a,he⟩;obtain rfl:v=_:=a;have he:=zH (((za h) _).tr he)
   go_wp2
   go_ret
   exact Ret.mk (j.out▸rfl) (za he)
 · exact qoC n d g v w hn a b
end Go.Proofs.YtgcegilpajfdhaaGreat
namespace Go.Proofs.YtgcegilpajfdhaaGreat
open Go.Proofs.Tryz
set_option maxRecDepth 100000
open Go.ChangeShapes Go.WideShapes Go.ChangeAt Go.RowKit
theorem qCO{n:Int}(h:(Lit.int .i64 n).wf=true):I64 n:=by
 simp[Lit.wf,IntKind.min,IntKind.max,IntKind.signed,IntKind.bits]at h;unfold I64;omega
theorem qpg:(prog).cellsOf 77=4:=by kernel_rfl
theorem qpn:(prog).cellsOf 64=3:=by kernel_rfl
section
variable{H:Type}{enc:TypeId×Value→H}{W:World}{base:Nat}{sp:Nat→Bool}{hd:Bool}
variable{b0:Nat}{r:Reach}{v:Value}{d:DataW H}{ps:List MemPlace}
end
end Go.Proofs.YtgcegilpajfdhaaGreat
namespace Go.Proofs.YtgcegilpajfdhaaGreat
open Go.Proofs.Tryz
set_option maxRecDepth 100000
open Go.RowKit
def orI(a b:Int):Int:=if a≠0 then a else b
mutual
def yk:T→T→Int |.mk k i s ar,u=>orI (zP (zl k) (zl u.k)) (if zl k=0∨zl k=1 then zP i u.i else if zl k=2 then orI (zP ar.length u.ar.length) (orI (yr s u.s) (cmpL ar u.ar))else orI (zP k u.k) (orI (zP i u.i) (yr s u.s)))
def cmpL:List T→List T→Int |[],_=>0 |t::ts,us=>match us with |[]=>0 |u::us=>orI (yk t u) (cmpL ts us)
end
theorem qpL(t u:T):yk t u=orI (zP (zl t.k) (zl u.k))
 (if zl t.k=0∨zl t.k=1 then zP t.i u.i
  else if zl t.k=2 then orI (zP t.ar.length u.ar.length) (orI (yr t.s u.s) (cmpL t.ar u.ar))
  else orI (zP t.k u.k) (orI (zP t.i u.i) (yr t.s u.s))):=by
 cases t;cases u;simp only[yk,T.k,T.i,T.s,T.ar];rfl
theorem qlC(t u:T)(ts us:List T):cmpL (t::ts) (u::us)=orI (yk t u) (cmpL ts us):=by simp only[cmpL]
theorem qsp{ts us:List T}{k:Nat}{t u:T}(b:ts[k]? =some t)(c:us[k]? =some u):cmpL (ts.drop k) (us.drop k)=orI (yk t u) (cmpL (ts.drop (k+1)) (us.drop (k+1))):=by
 have e:∀{l:List T}{x:T},l[k]? =some x→l.drop k=x::l.drop (k+1):=fun{l x} h=>by
  have a:=(jd.1 h).1;rw[vX a];congr 1;have:=jj a;rw[this]at h;injection h
 rw[e b,e c,qlC]
theorem qkW{a b:Int}(h:zP a b=0):a=b:=by unfold zP at h;split at h<;>(try split at h)<;>omega
theorem qsd(a:Int):zP a a=0:=by unfold zP;simp
theorem qtF(k:Int):0≤zl k∧zl k≤3:=by unfold zl;split<;>(try split)<;>(try split)<;>omega
theorem qcY{P:Program}{f:FuncId}{args:Array Value}{w:World}{n:Nat}{v:Value}
 (h:Calls P f args (w.drewN n) fun e w'=>e= .returned v∧w.drewN n=w'):Calls P f args (w.drewN n) fun e a=>e= .returned v∧∃m,a=w.drewN m:=
 h.mono fun _ _⟨he,hm⟩=>⟨he,n,hm.symm⟩
theorem qs9(a b:Int):zP b a= -zP a b:=by unfold zP;repeat' split<;>omega
theorem qnn{x y b c:Int}(h:b= -x)(k:c= -y):orI b c= -orI x y:=by unfold orI;subst h k;by_cases a:x=0<;>simp[a]
def zb2(x y:List UInt8):Int:=if Op.bytesLess x y then-1 else if Op.bytesLess y x then 1 else 0
theorem qAs(a b:ByteArray):yr a b=zb2 a.toList b.toList:=rfl
theorem qst(a b:UInt8)(x y:List UInt8):zb2 (a::x) (b::y)=orI (zP a.toNat b.toNat) (zb2 x y):=by
 unfold zb2 zP orI;simp only[Op.bytesLess];by_cases c:a<b;have d:a.toNat<b.toNat:=by rwa [UInt8.lt_iff_toNat_lt]at c
 simp[c,d];by_cases e:b<a;have f:b.toNat<a.toNat:=by rwa [UInt8.lt_iff_toNat_lt]at e
 have g:¬(a==b)=true:=by simp;rintro rfl;exact c e
 have h:¬a.toNat<b.toNat:=by omega
 have j:¬a=b:=by simpa using g
 simp[c,e,f,h,j];have g:a=b:=by
  apply UInt8.toNat_inj.1;rw[UInt8.lt_iff_toNat_lt]at*;omega
 subst g;simp[c]
theorem qzh:∀x y:List UInt8,zb2 y x= -zb2 x y
 |[],[]=>by decide
 |[],b::y=>by simp[zb2,Op.bytesLess]
 |a::x,[]=>by simp[zb2,Op.bytesLess]
 |a::x,b::y=>by
  rw[qst,qst];exact qnn (qs9 _ _) (qzh x y)
theorem qCA{n:Nat}(H:∀a b:T,wt a≤n→yk b a= -yk a b):∀a b:List T,wtL a≤n→cmpL b a= -cmpL a b
 |[],[],_=>by simp[cmpL]
 |[],_::_,_=>by simp[cmpL]
 |_::_,[],_=>by simp[cmpL]
 |t::a,u::b,h=>by
  simp only[wtL]at h;rw[qlC,qlC];exact qnn (H t u oa) (qCA H a b oa)
theorem qBG:∀(n:Nat)(a b:T),wt a≤n→yk b a= -yk a b
 |0,a,_,h=>by rw[qd4]at h;omega
 |n+1,a,b,h=>by
  rw[qpL,qpL a b];by_cases e:zl a.k=zl b.k;refine qnn (qs9 _ _) ?_;rw[←e];by_cases c:zl a.k=0∨zl a.k=1;rw[if_pos c,if_pos c];exact qs9 _ _;rw[if_neg c,if_neg c];by_cases d:zl a.k=2;rw[if_pos d,if_pos d];exact qnn (qs9 _ _) (qnn (qzh _ _) (qCA (fun a b h=>qBG n a b h) _ _ (by rw[qd4]at h;omega)));rw[if_neg d,if_neg d];exact qnn (qs9 _ _) (qnn (qs9 _ _) (qzh _ _));have f:zP (zl a.k) (zl b.k)≠0:=fun h=>e (qkW h);have g:=qs9 (zl a.k) (zl b.k);unfold orI;rw[if_pos oa,if_pos f,g]
theorem qAw(a b:T):yk b a= -yk a b:=qBG _ a b (jf _)
theorem quA(a:T):yk a a=0:=by have:=qAw a a;omega
theorem qnf:∀l:List T,cmpL l l=0
 |[]=>by simp[cmpL]
 |t::l=>by rw[qlC,quA,qnf l];rfl
end Go.Proofs.YtgcegilpajfdhaaGreat
namespace Go.Proofs.YtgcegilpajfdhaaGreat
open Go.Proofs.Tryz
set_option maxRecDepth 100000
open Go.RowKit Go.Shelf
attribute [local go_sem] Oper.semAt_some
mutual
def zX:T→List Int |.mk k i _ ar=>if k=1 then[i]else if k=2 then zy ar else[]
def zy:List T→List Int |[]=>[] |t::ts=>zX t++zy ts
end
theorem qjQ{t:T}(h:t.k=1):zX t=[t.i]:=by cases t;simp only[T.k]at h;subst h;simp[zX,T.i]
theorem qfR{t:T}(h:t.k≠1):zX t=zy t.used:=by
 obtain⟨k,i,s,ar⟩:=t;simp only[T.k]at h;unfold T.used;simp only[zX,if_neg h,T.k,T.ar];by_cases a:k=2;simp[a];simp[a,zy]
theorem qk1(a b:List T):zy (a++b)=zy a++zy b:=by
 induction a with
 |nil=>simp[zy]
 |cons t a c=>simp only[jy,zy,c,jo]
def Came(b:World)(J c:List Int→World→Prop)(pre xs:List Int)(e:Ending)(a:World):Prop:=(e= .returned (.bool true)∧J (pre++xs) a∧Ext b a)∨(e= .returned (.bool false)∧∃q,q<+:xs∧c (pre++q) a)
def zcz(b:World)(l N:Nat)(J c:List Int→World→Prop):Prop:= ∀m pre x W,I64 x→J pre W→Ext b W→pre.length<N→YieldAt Fence.wide m prog l #[.int .i64 x] W fun e a=>(e= .returned (.bool true)∧J (pre++[x]) a∧Ext b a)∨(e= .returned (.bool false)∧c (pre++[x]) a)
def zbY(J:List Int→World→Prop):Prop:=∀s W a,J s W→Ext W a→J s a
theorem qyp(a:World)(l N:Nat)(J m:List Int→World→Prop)(p:zbY J)(q:zcz a l N J m)(t:T)(b:t.k=1)(n:Nat)(v:Value)(pre:List Int)(W:World)(r:VT a t v)(he:Ext a W)(u:J pre W)(o:pre.length+(zX t).length≤N):
 CallsIn Fence.wide n prog 276 #[v,.func (.yield l) #[] #[]] W (Came a J m pre (zX t)):=by
 obtain⟨sl,rfl,hs,-,hi,-⟩:=r.open_;obtain⟨A,c,xs,rfl,-⟩:=hs;rw[qjQ b]at o⊢;have w:(t.k==1)=true:=by simpa using b
 clear b;have d:pre.length<N:=by simp at o;omega
 obtain⟨fn,tmps,assign,body,hy,hR⟩:=q (n-1) pre t.i (W.alloc (.cells #[.int .i64 t.k,.int .i64 t.i,.string t.s,.slice A t.ar.length c] 77)) hi (p _ _ _ u ((Ext.rfl' W).al _)) (he.al _) d;clear hi;refine callsIn_of_wp func276 rfl trivial ?_ rfl;simp only[Tryz.ntmps276,jV,jg,ji,Jr,Js,Jt,Ju,Jv,Jw,jq,jy]
 gi_wp2_with ((try refine⟨fun h=>(by cases h),?_⟩);refine hR.mono ?_;clear hR;rintro e x (⟨rfl,f,g⟩|⟨rfl,j⟩))
 · go_ret
   exact .inl ⟨rfl,f,g⟩
 · go_ret
   exact .inr ⟨rfl,[t.i],List.prefix_rfl,j⟩
def zbA(t:T)(sl:Value):Value:=if t.k=2 then sl else .slice none 0 0
theorem qx2{w:World}{t:T}{sl:Value}(h:SlT w t.ar sl):SlT w t.used (zbA t sl):=by
 unfold zbA T.used;by_cases a:t.k=2;rw[if_pos a,if_pos a];exact h;rw[if_neg a,if_neg a];exact⟨none,0,[],rfl,by simp,by omega,Rd.nil _ _,CL.nil _⟩
theorem qwU(t:T)(A:Option Addr)(n c:Nat)(w:World):Calls prog 303 #[.agg #[.int .i64 t.k,.int .i64 t.i,.string t.s,.slice A n c]] w (Ret w (Is (zbA t (.slice A n c)))):=by
 by_cases h:t.k=2
 · have hb:(t.k==2)=true:=by simpa using h
   have a:Hid (zbA t (.slice A n c)= .slice A n c):=Lib.hid (if_pos h);clear h
   go_enter func303,Tryz.ntmps303
   go_wp2
   go_ret
   rw[a.out];exact Ret.mk rfl ((Ext.rfl' w).al _)
 · have hb:(t.k==2)=false:=by simpa using h
   have a:Hid (zbA t (.slice A n c)= .slice none 0 0):=Lib.hid (if_neg h);clear h
   go_enter func303,Tryz.ntmps303
   go_wp2
   go_ret
   rw[a.out];exact Ret.mk rfl ((Ext.rfl' w).al _)
def zcy(b:World)(J:List Int→World→Prop)(pre:List Int)(l:List T)(a:Value)(wr:World):Prop:= ∃k:Nat,a= .int .i64 (k:Int)∧k≤l.length∧Ext b wr∧J (pre++zy (l.take k)) wr
theorem qvZ(d:Nat)(hd:d≤1000000000)(a:World)(l N:Nat)(J F:List Int→World→Prop)(V:zbY J)
 (IH:Hid (∀(n:Nat)(t:T)(v:Value)(pre:List Int)(W:World),wt t≤d→VT a t v→Ext a W→J pre W→pre.length+(zX t).length≤N→
  CallsIn Fence.wide n prog 276 #[v,.func (.yield l) #[] #[]] W (Came a J F pre (zX t))))
 (t:T) (r:t.k≠1) (n:Nat) (v:Value) (pre:List Int) (W:World) (hn:wtL t.ar≤d) (X:VT a t v) (he:Ext a W) (h0:J pre W) (G:pre.length+(zX t).length≤N):
 CallsIn Fence.wide n prog 276 #[v,.func (.yield l) #[] #[]] W (Came a J F pre (zX t)):=by
 obtain⟨sl,rfl,hs,-⟩:=X.open_;have f:=qx2 hs;obtain⟨A,c,xs,rfl,-⟩:=hs;rw[qfR r]at G⊢;have hk:(t.k==1)=false:=by simpa using r
 have H:wtL t.used≤d:=by have:=qql t;omega
 clear r;refine callsIn_of_wp func276 rfl trivial ?_ rfl;simp only[Tryz.ntmps276,jV,jg,ji,Jr,Js,Jt,Ju,Jv,Jw,jq,jy]
 gi_wp2_with fail
 refine⟨trivial,fun h=>(by cases h),(callsIn_wide.2 (qwU t A _ c _)).mono ?_⟩;rintro e w1 ⟨v,rfl,I,x⟩;obtain rfl:v=_:=I;have z:Ext W w1:=((Ext.rfl' W).al _).tr x;have K:=V _ _ _ h0 z;have L:=he.tr z;have HM:Hid (∀u,u∈t.used→wt u≤d):=Lib.hid (fun u hu=>by have:=qdT hu;omega);have hll:t.used.length≤d:=by have:=qhw t.used;omega
 have HN:=Lib.hid G;clear H G X x hn;generalize t.used=ts at*;generalize zbA t (.slice A t.ar.length c)=av at*;obtain⟨Y,M,O,rfl,B⟩:=f;have C:SlT a ts (.slice Y ts.length M):=⟨Y,M,O,rfl,B⟩
 have f:=zH C;clear B C
 gi_wp2
 gi_loopw [6,17] (fun _ g wr=>zcy a J pre ts g wr) (fun _ g _=>ts.length-(intOf g).toNat)
 case atStart=>exact⟨0,rfl,by omega,L,by simpa[zy]using K⟩
 case round=>
  obtain⟨k,rfl,hk2,w,j⟩:=hrel;by_cases hlt:k<ts.length
  · obtain⟨u,hu⟩:∃u,ts[k]? =some u:=⟨ts[k],jj hlt⟩
    obtain⟨b,o,sl,rfl,Z,e1,e2,e3,hs,m⟩:=(za f).at_ hu;have c0:=w.cellOf Z;have c1:=w.cellOf e1;have M:=w.cellOf e2;have c3:=w.cellOf e3;clear Z e1 e2 e3;have m:=zH m;obtain⟨A3,d3,xs3,rfl,-⟩:=hs;have P:=Lib.hid (show zy (ts.take (k+1))=zy (ts.take k)++zX u by rw[qfv hu,qk1];simp[zy]);have HU:Hid (wt u≤d):=Lib.hid (HM.out u (List.mem_of_getElem? hu));have HL:Hid ((pre++zy (ts.take k)).length+(zX u).length≤N):=Lib.hid (by
     have r:=HN.out;have Q:zy ts=zy (ts.take (k+1))++zy (ts.drop (k+1)):=by rw[←qk1,j7]
     rw[Q,P.out]at r;simp only[ja]at r⊢;omega)
    clear hu
    gi_wp2_with fail
    refine⟨trivial,fun h=>(by cases h),(IH.out (n-1) u _ (pre++zy (ts.take k)) _ HU.out (za m) (w.al _) (V _ _ _ j ((Ext.rfl' wr).al _)) HL.out).mono ?_⟩;rintro e w2 (⟨rfl,E,R⟩|⟨rfl,q,hq,hx⟩)
    · have p:J (pre++zy (ts.take (k+1))) w2:=by rw[P.out,←jo];exact E
      clear E
      gi_wp2
      go_roundw
      case rel=>exact⟨k+1,by go_num,by omega,R,p⟩
      case measure=>simp[intOf];omega
    · have S:zy (ts.take k)++q<+:zy ts:=by
       have Q:zy ts=zy (ts.take (k+1))++zy (ts.drop (k+1)):=by rw[←qk1,j7]
       rw[Q,P.out,jo];exact List.prefix_append_right_inj _|>.2 (hq.trans (List.prefix_append _ _))
      have U:F (pre++(zy (ts.take k)++q)) w2:=by rw[←jo];exact hx
      gi_wp2
      go_ret
      exact .inr ⟨rfl,_,S,U⟩
  · have p:J (pre++zy ts) wr:=by rw[vg oa]at j;exact j
    gi_wp2
    go_ret
    exact .inl ⟨rfl,p,w⟩
theorem quO(a:World)(l N:Nat)(J b:List Int→World→Prop)(c:zbY J)(e:zcz a l N J b):∀(d:Nat),d≤1000000000→∀(n:Nat)(t:T)(v:Value)(pre:List Int)(W:World),wt t≤d→VT a t v→Ext a W→J pre W→pre.length+(zX t).length≤N→
 CallsIn Fence.wide n prog 276 #[v,.func (.yield l) #[] #[]] W (Came a J b pre (zX t))
 |0,_,_,t,_,_,_,hn,_,_,_,_=>by rw[qd4]at hn;omega
 |d+1,m,n,t,v,pre,W,hn,f,he,g,h=>by
  by_cases j:t.k=1;exact qyp a l N J b c e t j n v pre W f he g h;exact qvZ d oa a l N J b c (Lib.hid (quO a l N J b c e d oa)) t j n v pre W (by rw[qd4]at hn;omega) f he g h
attribute [local go_sem] Oper.semAt_some
theorem lives{β:Type}{B:Nat}{J:β→World→Prop}(h:AbidesFrom B J):∀(s:β)(W a:World),J s W→Ext W a→J s a:=fun s W a hs e=>
 h s W a none hs ⟨e.os,e.tape,e.output,e.size,fun k b _=>e.block k b⟩ (fun r e=>by cases e)
theorem RoundIn.anyD{F:Fence}(hd:F.depth=none){m a:Nat}{P:Program}{l:Nat}{f:FuncId}{tmps:Array Value}{assign body:Code}{w:World}{R:Ending→World→Prop}
 (h:RoundIn F m P l f tmps assign body w R):RoundIn F a P l f tmps assign body w R:=⟨h.1,fun c cs _=>h.2 c cs (fun d h=>by rw[hd]at h;cases h)⟩
theorem YieldAt.anyD{F:Fence}(hd:F.depth=none){m:Nat}(a:Nat){P:Program}{l:Nat}{args:Array Value}{W:World}{R:Ending→World→Prop}(h:YieldAt F m P l args W R):YieldAt F a P l args W R:=by
 obtain⟨fn,tmps,assign,body,hy,hR⟩:=h;exact⟨fn,tmps,assign,body,hy,RoundIn.anyD hd hR⟩
def zcN(a:World)(J:List Int→World→Prop)(l:List T)(v6:Value)(wr:World):Prop:= ∃k:Nat,v6= .int .i64 (k:Int)∧k≤l.length∧Ext a wr∧J (zy (l.take k)) wr
theorem qrq(d:Nat)(hd:d≤1000000000)(g:World)(l:Nat)(J p:List Int→World→Prop)(K:zbY J)(ts:List T)(sv:Value)(z n:Nat)(hn:wtL ts≤d)(A:zcz g l (zy ts).length J p)
 (W:World) (hs:SlT g ts sv) (hb:g.cell? ⟨z,0,none⟩=some sv) (he:Ext g W) (L:J [] W):
 CallsIn Fence.wide n prog 275 #[.func (.yield l) #[] #[],.pointer (some ⟨z,0,none⟩)] W fun e B=>(∃v,e= .returned v)∧
  ((∃ys,ys=zy ts∧J ys B)∨(∃pre,pre<+:zy ts∧p pre B)):=by
 have r:=zH hs;have t:=zH hb;have M:Hid (∀u,u∈ts→wt u≤d):=Lib.hid (fun u hu=>by have:=qdT hu;omega);have N:ts.length≤d:=by have:=qhw ts;omega
 have IH:=Lib.hid (quO g l (zy ts).length J p K A d hd);obtain⟨A2,O,xs,rfl,-⟩:=hs;have P:=he.cellOf hb;clear hb hn A;refine callsIn_of_wp func275 rfl trivial ?_ rfl;simp only[Tryz.ntmps275,jV,jg,ji,Jr,Js,Jt,Ju,Jv,Jw,jq,jy]
 gi_wp2
 gi_loopw [3,6] (fun _ v6 wr=>zcN g J ts v6 wr) (fun _ v6 _=>ts.length-(intOf v6).toNat)
 case atStart=>exact⟨0,rfl,by omega,he,by simpa[zy]using L⟩
 case round=>
  obtain⟨k,rfl,Q,j,a⟩:=hrel;have R:=j.cellOf (za t);by_cases hlt:k<ts.length
  · obtain⟨u,hu⟩:∃u,ts[k]? =some u:=⟨ts[k],jj hlt⟩
    obtain⟨b,o,sl,rfl,C,E,F,G,hs,c⟩:=(za r).at_ hu;have c0:=j.cellOf C;have c1:=j.cellOf E;have O:=j.cellOf F;have c3:=j.cellOf G;clear C E F G;have c:=zH c;obtain⟨A3,d3,S,rfl,-⟩:=hs;have H:=Lib.hid (show zy (ts.take (k+1))=zy (ts.take k)++zX u by rw[qfv hu,qk1];simp[zy]);have U:Hid (wt u≤d):=Lib.hid (M.out u (List.mem_of_getElem? hu));have I:Hid (zy ts=zy (ts.take k)++(zX u++zy (ts.drop (k+1)))):=Lib.hid (by
     have V:zy ts=zy (ts.take (k+1))++zy (ts.drop (k+1)):=by rw[←qk1,j7]
     rw[V,H.out,jo])
    have X:Hid ((zy (ts.take k)).length+(zX u).length≤(zy ts).length):=Lib.hid (by rw[I.out];simp only[ja];omega);clear hu
    gi_wp2_with fail
    refine⟨trivial,fun h=>(by cases h),(IH.out (n-1) u _ (zy (ts.take k)) _ U.out (za c) j a X.out).mono ?_⟩;rintro e Y (⟨rfl,m,w⟩|⟨rfl,q,hq,Z⟩)
    · have f:J (zy (ts.take (k+1))) Y:=by rw[H.out];exact m
      clear m
      gi_wp2
      go_roundw
      case rel=>exact⟨k+1,by go_num,by omega,w,f⟩
      case measure=>simp[intOf];omega
    · have x:zy (ts.take k)++q<+:zy ts:=by
       rw[I.out];exact List.prefix_append_right_inj _|>.2 (hq.trans (List.prefix_append _ _))
      gi_wp2
      refine bodyPost_ret (results_none rfl _ _ _) rfl ?_;exact⟨⟨_,rfl⟩,.inr ⟨_,x,Z⟩⟩
  · have f:J (zy ts) wr:=by rw[vg oa]at a;exact a
    gi_wp2
    go_end0
    exact⟨⟨_,rfl⟩,.inl ⟨_,rfl,f⟩⟩
theorem qm0(v:Value)(w:World)(A:Option Addr)(m c:Nat)(a:v= .slice A m c):Calls prog 233 #[v] w fun e w'=>e= .returned (.func (.func 275) #[] #[.pointer (some ⟨w.heap.size,0,none⟩)])∧w'=w.alloc (.cells #[v] 62):=by
 subst a
 go_enter func233,Tryz.ntmps233
 go_wp2
 go_ret
 exact⟨rfl,rfl⟩
theorem qvc(d:Nat)(hd:d≤1000000000)(n:Nat)(f:Nat)(ts:List T)(sv:Value)(w:World)(hn:wtL ts≤d)(j:w.cell? ⟨f,0,none⟩=some sv)(hs:SlT w ts sv):
 SeqStopsK Fence.wide n prog 275 #[.pointer (some ⟨f,0,none⟩)] (fun x:Int=>#[Value.int .i64 x]) (Below w.heap.size) (fun ys=>ys=zy ts) (fun pre=>pre<+:zy ts) (zy ts).length w:=fun l J o W p q _ r t=>
 qrq d hd w l J o (lives q) ts sv f n hn (fun m pre x W1 _ u g hl=>YieldAt.anyD rfl m ((r pre x W1 u hl).mono fun e v h=>h.elim (fun⟨a,b,c⟩=>.inl ⟨a,b,g.trans c⟩) .inr)) W hs j p t
abbrev zcp:={x:Int//I64 x}
def zaO(l:List zcp):List Int:=l.map (·.1)
theorem qkT(l:List zcp)(x:zcp):zaO (l++[x])=zaO l++[x.1]:=jJ ..
theorem quG(l:List zcp):(zaO l).length=l.length:=jh ..
theorem qtp(d:Nat)(hd:d≤1000000000)(n:Nat)(f:Nat)(ts:List T)(sv:Value)(w:World)(hn:wtL ts≤d)(u:w.cell? ⟨f,0,none⟩=some sv)(hs:SlT w ts sv):
 SeqStopsK Fence.wide n prog 275 #[.pointer (some ⟨f,0,none⟩)] (fun x:zcp=>#[Value.int .i64 x.1]) (Below w.heap.size) (fun ys=>zaO ys=zy ts) (fun pre=>zaO pre<+:zy ts) (zy ts).length w:=fun l J v W z A _ B C=>by
 refine(qrq d hd w l (fun xs W=>∃m:List zcp,zaO m=xs∧J m W) (fun xs W=>∃m:List zcp,zaO m=xs∧v m W) (fun s W r⟨m,hm,hs⟩ e=>⟨m,hm,lives A _ _ _ hs e⟩) ts sv f n hn ?_ W hs u z ⟨[],rfl,C⟩).mono ?_
 · rintro m pre x W1 E ⟨q,rfl,F⟩ g hl
   refine YieldAt.anyD rfl m ((B q ⟨x,E⟩ W1 F (by rwa [quG]at hl)).mono fun e r h=>h.elim (fun⟨a,b,c⟩=>.inl ⟨a,⟨_,qkT _ _,b⟩,g.trans c⟩) fun⟨a,b⟩=>.inr ⟨a,⟨_,qkT _ _,b⟩⟩)
 · rintro e r ⟨t,⟨ys,j,m,o,p⟩|⟨pre,j,m,o,p⟩⟩
   · exact⟨t,.inl ⟨m,o.trans j,p⟩⟩
   · exact⟨t,.inr ⟨m,(by subst o;exact j:zaO m<+:zy ts),p⟩⟩
attribute [local go_sem] Oper.semAt_some
def zaf(t:T):Bool:=(zX t).isEmpty
theorem qpC(t:T):zy [t]=zX t:=by simp[zy]
theorem qrl{w:World}{t:T}{cs:Array Value}(h:VT w t (.agg cs))(ty:TypeId)(g:Nat)(a:w.heap.size=g):SlT (w.alloc (.cells cs ty)) [t] (.slice (some ⟨g,0,none⟩) 1 1):=
 ⟨some ⟨g,0,none⟩,1,cs.toList,rfl,by simp,by omega,Rd.newAt _ _ _ _ a,CL.single (h.ct.ext ((Ext.rfl' w).al _))⟩
theorem qvs(d:Nat)(hd:d≤1000000000)(t:T)(v:Value)(w:World)(hn:wt t≤d)(H:VT w t v):Calls prog 325 #[v] w (Ret w (Is (.bool (zaf t)))):=by
 obtain⟨sl,rfl,hs,-⟩:=H.open_;obtain⟨A,c,xs,rfl,-⟩:=hs;refine(callsIn_wide (n:=3)).1 ?_;refine callsIn_of_wp_marks func325 rfl trivial ?_ rfl;simp only[Tryz.ntmps325,jV,jg,ji,Jr,Js,Jt,Ju,Jv,Jw,jq,jy]
 gi_wp2_with fail
 refine⟨trivial,(callsIn_wide.2 (qm0 _ _ _ _ _ rfl)).mono ?_⟩;rintro e w1 ⟨rfl,rfl⟩
 gi_wp2
 have o:=(qrl (H.ext (((Ext.rfl' w).al (.cells #[.int .i64 t.k,.int .i64 t.i,.string t.s,.slice A t.ar.length c] 77)).al (.cells #[.bool false] 4))) 77 (w.heap.size+1+1) og).ext ((Ext.rfl' _).al (.cells #[.slice (some ⟨w.heap.size+1+1,0,none⟩) 1 1] 62));obtain⟨g,a⟩:∃g,((((w.alloc (.cells #[.int .i64 t.k,.int .i64 t.i,.string t.s,.slice A t.ar.length c] 77)).alloc (.cells #[.bool false] 4)).alloc (.cells #[.int .i64 t.k,.int .i64 t.i,.string t.s,.slice A t.ar.length c] 77)).alloc (.cells #[.slice (some ⟨w.heap.size+1+1,0,none⟩) 1 1] 62))=g:=⟨_,rfl⟩
 have I:Ext w g:=by rw[←a];exact((((Ext.rfl' w).al _).al _).al _).al _
 have L:g.heap.size=w.heap.size+1+1+1+1:=by rw[←a];simp
 have hR:Boxed g (w.heap.size+1) 4 (.bool false):=by rw[←a];exact((zbr _ _ _ _).alloc _).alloc _
 have hX:g.cell? ⟨w.heap.size+1+1+1,0,none⟩=some (.slice (some ⟨w.heap.size+1+1,0,none⟩) 1 1):=by
  rw[←a];exact(show Boxed _ (w.heap.size+1+1+1) 62 _ by
   have:=Boxed.new (((w.alloc (.cells #[.int .i64 t.k,.int .i64 t.i,.string t.s,.slice A t.ar.length c] 77)).alloc (.cells #[.bool false] 4)).alloc (.cells #[.int .i64 t.k,.int .i64 t.i,.string t.s,.slice A t.ar.length c] 77)) 62 (.slice (some ⟨w.heap.size+1+1,0,none⟩) 1 1);simpa using this).cell
 rw[a]at o⊢;clear a;have C:Below w.heap.size w g:=I;refine wpIn_rangeFunc_ownF rfl oa (gf:=275) (lb:=#[.pointer (some ⟨w.heap.size+1+1+1,0,none⟩)]) rfl trivial (enters_of func275 ob rfl)
  (qvc d hd 2 (w.heap.size+1+1+1) [t] _ g (by simpa[wtL]using hn) hX o) belowK_t (belowK_b oa) (Below.refl _ _) (fun _=>rfl)
  (fun pre W=>(pre=[]∧W.cell? ⟨w.heap.size+1,0,none⟩=some (.bool false)∧W.frozen? ⟨w.heap.size+1,0,none⟩=false)∧Below w.heap.size w W)
  (fun c pre W=>(c= .ret∧pre≠[]∧W.cell? ⟨w.heap.size+1,0,none⟩=some (.bool false))∧Below w.heap.size w W)
  (OwnFrom.and (Own.from (fun s A B row hs z hr=>⟨hs.1,cell_kept hs.2.1 z hr,(frozen_kept hs.2.1 z hr).trans hs.2.2⟩) _) (ownFrom_below (jf _) oa))
  (fun c=>OwnFrom.and (Own.from (fun s A B row hs z hr=>⟨hs.1,hs.2.1,cell_kept hs.2.2 z hr⟩) _) (ownFrom_below (jf _) oa))
  ⟨⟨rfl,hR.cell,hR.frozen⟩,C⟩
  (fun x=>{tmps:=#[.agg #[.int .i64 t.k,.int .i64 t.i,.string t.s,.slice A t.ar.length c],.pointer (some ⟨w.heap.size,0,none⟩),.pointer (some ⟨w.heap.size+1,0,none⟩),.agg #[.int .i64 t.k,.int .i64 t.i,.string t.s,.slice A t.ar.length c],.slice (some ⟨w.heap.size+1+1,0,none⟩) 1 1,.func (.func 275) #[] #[.pointer (some ⟨w.heap.size+1+1+1,0,none⟩)],.int .i64 x],defers:=[]}) ?assign ?body ?done ?stop
 case assign=>
  intro l x W K hK
  gi_wp2
  simpa using hK
 case body=>
  rintro l pre x W ⟨⟨M,b,E⟩,q⟩ _
  gi_wp2
  exact⟨KeepsOthers.setCell _ _ _,⟨rfl,by simp,World.cell?_setCell_same' _ _ _ (by rw[b];rfl)⟩,q.setCell (p:=⟨w.heap.size+1,0,none⟩) og _⟩
 case done=>
  rintro D ys W J rfl ⟨⟨u,b,E⟩,q⟩ hK;rw[qpC]at u;have F:Hid (zaf t=true):=Lib.hid (by unfold zaf;rw[u];rfl)
  gi_wp2
  have j:=(KeepsOthers.setCell W ⟨w.heap.size+1,0,none⟩ (.bool true)).same D _ hK rfl;refine⟨by simp,.inl ⟨_,_,rfl,run_takeDeferred j,?_⟩⟩;have m:=cell_kept (World.cell?_setCell_same' W ⟨w.heap.size+1,0,none⟩ (.bool true) (by rw[b];rfl)) (grownBy_putObj' _ D (.deferred none)) (fun r e=>by cases e;exact⟨_,j,rfl⟩);refine⟨.bool true,?_,Ret.mk (F.out▸rfl) ((q.setCell (p:=⟨w.heap.size+1,0,none⟩) og _).trans (belowK_b (w:=w) (jf _) _ D _ _ oa j rfl rfl))⟩;simp[results,Tryz.f325,go_sem,m]
 case stop=>
  rintro D c pre W J f ⟨⟨rfl,G,b⟩,q⟩ hK;rw[qpC]at f;have F:Hid (zaf t=false):=Lib.hid (by
   unfold zaf;cases h:zX t
   · rw[h]at f;exact absurd (List.prefix_nil.1 f) G
   · rfl)
  gi_wp2
  refine⟨by simp,.inl ⟨_,_,rfl,run_takeDeferred hK,?_⟩⟩;have m:=cell_kept b (grownBy_putObj' _ D (.deferred none)) (fun r e=>by cases e;exact⟨_,hK,rfl⟩);refine⟨.bool false,?_,Ret.mk (F.out▸rfl) (q.trans (belowK_b (w:=w) (jf _) W D _ _ oa hK rfl rfl))⟩;simp[results,Tryz.f325,go_sem,m]
attribute [local go_sem] Oper.semAt_some
def zbP(l:List Int)(x:Int):List Int:=if x∈l then l else l++[x]
def yt(l xs:List Int):List Int:=xs.foldl zbP l
theorem quj(l:List Int):yt l []=l:=rfl
theorem qp8(l xs ys:List Int):yt l (xs++ys)=yt (yt l xs) ys:=List.foldl_append ..
theorem qrO(l xs:List Int)(x:Int):yt l (xs++[x])=zbP (yt l xs) x:=by rw[qp8];rfl
theorem qym{l:List Int}{x y:Int}:y∈zbP l x↔y∈l∨y=x:=by
 unfold zbP;split
 constructor;exact .inl;rintro(h|rfl)<;>assumption
 simp
theorem qfY{y:Int}:∀{xs l:List Int},y∈yt l xs↔y∈l∨y∈xs
 |[],l=>by simp[quj]
 |x::xs,l=>by
  show y∈yt (zbP l x) xs↔_;rw[qfY,qym,jx,or_assoc]
theorem qyO(l:List Int)(x:Int):(zbP l x).length≤l.length+1:=by unfold zbP;split<;>simp
theorem qiA:∀(xs l:List Int),(yt l xs).length≤l.length+xs.length
 |[],l=>by simp[quj]
 |x::xs,l=>by
  show(yt (zbP l x) xs).length≤_;have:=qiA xs (zbP l x);have:=qyO l x;simp only[jg];omega
mutual
theorem qB7:∀t:T,(zX t).length≤wt t
 |.mk k i s ar=>by
  simp only[zX,wt];have:=qjv ar;split
  simp;split
  omega;simp
theorem qjv:∀l:List T,(zy l).length≤wtL l
 |[]=>by simp[zy]
 |t::l=>by
  simp only[zy,wtL,ja];have:=qB7 t;have:=qjv l;omega
end
theorem qCl{x:Int}(h:I64 x):(Lit.int .i64 x).wf=true:=by
 unfold I64 at h;simp[Lit.wf,IntKind.min,IntKind.max,IntKind.signed,IntKind.bits];omega
theorem qxM:((prog).info? 3).map (fun i=>(i.zero,i.size,i.bytes))=some (some (.int .i64 0),1,8):=by kernel_rfl
def zaj(W:World)(b:Nat)(xs:List Int):Prop:= ∃D:DataW Unit,W.ownsMap prog 3 (plainElem prog 4) b xs.length D∧Maps.IsMap D∧∀x:Int,I64 x→D.atKey (.int .i64 x) (.lit (.bool false))= .lit (.bool (decide (x∈xs)))
theorem zaj.made(w:World):zaj (w.alloc (.map #[] 0)) w.heap.size []:=
 ⟨.map [],World.ownsMap_made _ _ _ _,⟨_,rfl⟩,fun _ _=>rfl⟩
theorem zaj.kept{W c:World}{row:Option Nat}{b:Nat}{xs:List Int}(h:zaj W b xs)(d:W.grownBy c row)(a:some b≠row):zaj c b xs:=
 let⟨D,e,f,g⟩:=h;⟨D,e.kept d a,f,g⟩
theorem zaj.heap{W:World}{b:Nat}{xs:List Int}(h:zaj W b xs):∃es a,W.heap[b]? =some (.map es a):=let⟨_,⟨es,a,c,_⟩,_⟩:=h;⟨es,a,c⟩
theorem qxp(w:World):(zeroValue 4).run prog w= .ok (.bool false) w:=by kernel_rfl
theorem zaj.look{W:World}{b:Nat}{xs:List Int}(h:zaj W b xs){x:Int}(d:I64 x):(Instr.lookup 314 (.map (some b)) (.int .i64 x) false).run prog W= .ok (.bool (decide (x∈xs))) W:=by
 obtain⟨D,e,g,f⟩:=h;obtain⟨v,ps,a,c⟩:=e.lookup (Maps.int_keyed underlying3) underlying314 (qxp W) (plainElem_bool underlying4 false) (Maps.keyOf_int_mk underlying3 (qCl d));rw[f x d]at c;have:v= .bool (decide (x∈xs)):=by
  unfold plainElem at c;rw[underlying4]at c;split at c<;>simp_all
 rw[a,this]
theorem zaj.put{W:World}{b:Nat}{xs:List Int}{D':DataW Unit}{x:Int}(f:I64 x)(hm:Maps.IsMap D')(hd:∃D:DataW Unit,D'=D.put (.int .i64 x) (.lit (.bool true))∧Maps.IsMap D∧∀x:Int,I64 x→D.atKey (.int .i64 x) (.lit (.bool false))= .lit (.bool (decide (x∈xs))))
 (c:W.ownsMap prog 3 (plainElem prog 4) b (xs.length+1) D'):zaj W b (xs++[x]):=by
 obtain⟨D,rfl,d,e⟩:=hd;refine⟨_,by simpa using c,hm,fun y hy=>?_⟩;by_cases a:y=x
 · subst a
   rw[Maps.atKey_put_same d (by simp[WideAt.IsKeyLit])];simp
 · rw[Maps.atKey_put_other (by simp[a]),e y hy]
   simp[a]
def zbu(base b a c:Nat)(xs:List Int)(W:World):Prop:=(∃v,Boxed W b 87 v∧W.ownsRow base 3 1 v (yt [] xs).length ((yt [] xs).map (Value.int .i64)))∧Boxed W c 314 (.map (some a))∧zaj W a (yt [] xs)
theorem qrP{B b:Nat}{t:TypeId}{v:Value}{X Y:World}{row:Option Nat}(c:Boxed X b t v)(e:X.grownBy Y row)(a:∀r,row=some r→B≤r∧∃o:Obj,X.heap[r]? =some o∧o.isCells=false):Boxed Y b t v:=
 c.kept e (fun f=>by
  obtain⟨_,o,d,g⟩:=a b f.symm;rw[show X.heap[b]? =_ from c]at d;cases d;cases g)
theorem qxR(B base j c l:Nat)(n:c<B):OwnFrom B (fun(pre:List zcp) W=>zbu base j c l (zaO pre) W):=by
 rintro s X Y row ⟨⟨v,m,hr⟩,d,hm⟩ b a;refine⟨⟨v,qrP m b a,hr.kept b ?_⟩,qrP d b a,hm.kept b (fun e=>?_)⟩;rcases hr.2 with⟨rfl,_⟩|⟨g,cap,cur,rfl,_,f,_⟩
 exact .inl rfl;refine .inr fun e=>?_;obtain⟨_,o,h,d⟩:=a g (by simpa[Value.ownBlock]using e.symm);rw[f]at h;cases h;cases d;have:=(a c e.symm).1;omega
theorem qnc{W:World}{base:Nat}{e:TypeId}{size:Nat}{v:Value}{k:Nat}{xs:List Value}(h:W.ownsRow base e size v k xs){b:Nat}{es:Array _}{c:Nat}(hb:W.heap[b]? =some (.map es c)):v.ownBlock=none∨v.ownBlock≠some b:=by
 rcases h.2 with⟨rfl,_⟩|⟨g,cap,cur,rfl,_,a,_⟩
 exact .inl rfl;refine .inr fun d=>?_;obtain rfl:g=b:=by simpa[Value.ownBlock]using d
 rw[a]at hb;cases hb
theorem qyj(d:Nat)(hd:d≤1000000000)(ts:List T)(sv:Value)(F:Nat)(w:World)(hn:wtL ts≤d)(hc:w.cell? ⟨F,0,none⟩=some sv)(hs:SlT w ts sv):
 Calls prog 232 #[.func (.func 275) #[] #[.pointer (some ⟨F,0,none⟩)]] w (Ret w (zbE w.heap.size 3 1 (yt [] (zy ts)).length ((yt [] (zy ts)).map (Value.int .i64)))):=by
 have hmm:=@run_makeMap prog;obtain⟨i0,hi,P,Q,R⟩:=info_parts qxM;have S:(zy ts).length≤1000000000:=by have:=qjv ts;omega
 refine(callsIn_wide (n:=3)).1 ?_;refine callsIn_of_wp_marks func232 rfl trivial ?_ rfl;simp only[Tryz.ntmps232,jV,jg,ji,Jr,Js,Jt,Ju,Jv,Jw,jq,jy]
 gi_wp2
 have H:Below w.heap.size w (((w.alloc (.cells #[.slice none 0 0] 87)).alloc (.map #[] 0)).alloc (.cells #[.map (some (w.heap.size+1))] 314)):=(((Below.refl _ w).alloc (jf _) _).alloc og _).alloc oe _;have bO:=((Boxed.new w 87 (.slice none 0 0)).alloc (.map #[] 0)).alloc (.cells #[.map (some (w.heap.size+1))] 314);have bM:=Boxed.new ((w.alloc (.cells #[.slice none 0 0] 87)).alloc (.map #[] 0)) 314 (.map (some (w.heap.size+1)));have sM:=(zaj.made (w.alloc (.cells #[.slice none 0 0] 87))).kept (World.grownBy_alloc _ (.cells #[.map (some (w.heap.size+1))] 314) none) og;simp only[World.size_alloc]at bM sM;refine wpIn_rangeFunc_ownG rfl oa (gf:=275) (lb:=#[.pointer (some ⟨F,0,none⟩)]) rfl trivial (enters_of func275 ob rfl)
  (qtp d hd 2 F ts sv w hn hc hs) belowK_t (belowK_b oe) H (fun _=>rfl)
  (fun pre W=>zbu w.heap.size w.heap.size (w.heap.size+1) (w.heap.size+1+1) (zaO pre) W∧Below w.heap.size w W)
  (fun _ _ _=>False)
  (OwnFrom.and (qxR _ _ _ _ _ og) (ownFrom_below (jf _) oe))
  (fun _ _ _ _ _ hs _ _=>hs)
  ⟨⟨⟨_,bO,World.ownsRow_nil _ _ _ _⟩,bM,sM⟩,H⟩
  (fun x=>{tmps:=#[.func (.func 275) #[] #[.pointer (some ⟨F,0,none⟩)],undef,.slice none 0 0,.pointer (some ⟨w.heap.size,0,none⟩),.pointer (some ⟨w.heap.size+1+1,0,none⟩),.int .i64 x.1,.map (some (w.heap.size+1)),.func (.func 275) #[] #[.pointer (some ⟨F,0,none⟩)],.int .i64 x.1,undef,undef,undef,undef,undef,undef,undef,undef,undef,undef,undef],defers:=[]}) ?assign ?body ?done ?stop
 case assign=>
  intro l x W K hK
  gi_wp2
  exact hK
 case body=>
  rintro l pre x W ⟨⟨⟨v,m,b⟩,o,g⟩,G⟩ hlt;have I:=g.look x.2;have cO:=m.cell;have cM:=o.cell;by_cases hm:x.1∈yt [] (zaO pre)
  · rw[decide_eq_true hm]at I
    have U:Hid (yt [] (zaO (pre++[x]))=yt [] (zaO pre)):=Lib.hid (by rw[qkT,qrO];unfold zbP;rw[if_pos hm]);clear hm
    gi_wp2
    refine⟨KeepsFrom.refl _ _,Below.refl _ _,?_,G⟩;unfold zbu;rw[U.out];exact⟨⟨v,m,b⟩,o,g⟩
  · rw[decide_eq_false hm]at I
    have U:Hid (yt [] (zaO (pre++[x]))=yt [] (zaO pre)++[x.1]):=Lib.hid (by rw[qkT,qrO];unfold zbP;rw[if_neg hm]);have hul:(yt [] (zaO pre)).length≤1000000000:=by have:=qiA (zaO pre) [];rw[quG]at this;simp at this;omega
    clear hm;generalize yt [] (zaO pre)=us at*;have V:=G.size;obtain⟨es,ck,X⟩:=g.heap;obtain⟨D,J,r,Y⟩:=g
    gi_wp2_with (first
     |(
      gi_at_mapUpdate;refine wpListIn_mapUpdate_own _ rfl _ _ _ 314 rfl 3 4 (Maps.int_keyed underlying3) underlying314 _ (w.heap.size+1) us.length D rfl J (by unfold maxLen;omega) _ _ _ rfl rfl (Maps.keyOf_int_mk underlying3 (qCl x.2)) _ [] (plainElem_bool underlying4 true) ?_;intro w1 B a
      have t:Boxed w1 w.heap.size 87 v:=m.kept a og;have p:=o.kept a og;have f:=b.kept a (qnc b X);have u:=zaj.put x.2 (r.put _ _) ⟨D,rfl,r,Y⟩ B;have C:=G.grown a G.size (fun k e=>by cases e;omega);have cO1:=t.cell;have cM1:=p.cell)
     |(
      gi_at_builtin;refine wpListIn_append_own _ rfl _ _ 87 rfl w.heap.size 3 i0 (.int .i64 0) 1 8 underlying87 hi P Q R rfl od _ _ _ rfl (f.alloc _) ⟨w1.heap.size,0,none⟩ 1 1 [.int .i64 x.1] rfl rfl (cell_one_new _ _ _) (by simp[Value.oneCell']) (by unfold maxLen;omega) oa (by have:=C.size;simp;omega) ?_;intro v' Z q L hnil3
      obtain⟨M,hb4,E,hko,N⟩:=t.appended od f C.size (jf _) q L;have cO3:=M.cell;have fO3:=M.frozen;obtain⟨g',cap',rfl⟩:=ownsRow_succ q))
    have z:(w1.alloc (.cells #[.int .i64 x.1] 3)).grownBy Z v.ownBlock:=L;obtain⟨es1,ck1,O⟩:=u.heap;have hne:=qnc f O;refine⟨(KeepsFrom.of_grownBy a (fun j e=>by cases e;simp)).trans (hko.from _),((Below.refl _ W).grown a V (fun k e=>by cases e;omega)).trans N,?_,C.trans N⟩;unfold zbu;rw[U.out];refine⟨⟨_,hb4,by simpa using E⟩,((p.alloc _).kept z (p.not_row od f)).kept (grownBy_setCell' Z _ _) oe,?_⟩;refine((u.kept (World.grownBy_alloc _ _ none) og).kept z ?_).kept (grownBy_setCell' Z _ _) og;rcases hne with h|h
    · rw[h];simp
    · exact fun e=>h e.symm
 case done=>
  rintro D ys W hD hy ⟨⟨⟨v,m,b⟩,o,g⟩,G⟩ hK;have cO:=m.cell;have hy:zaO ys=zy ts:=hy;rw[hy]at b;clear g o
  gi_wp2
  refine⟨by simp,.inl ⟨_,_,rfl,run_takeDeferred hK,?_⟩⟩;refine⟨_,results_tmp rfl _ _ _,Ret.mk (v:=v) ?_ (G.trans (belowK_b (w:=w) (jf _) W D _ _ (by simp at hD;omega) hK rfl rfl))⟩;have hr:=ownsRow_putObj b (.deferred none) hK rfl;obtain⟨A,c,rfl⟩:=qnD hr;exact⟨A,c,rfl,hr⟩
 case stop=>
  rintro D c pre W _ _ h _;exact h.elim
end Go.Proofs.YtgcegilpajfdhaaGreat
namespace Go.Proofs.YtgcegilpajfdhaaGreat
open Go.Proofs.Tryz
set_option maxRecDepth 100000
open Go.RowKit
def orL:List Int→Int |[]=>0 |a::l=>if a≠0 then a else orL l
set_option maxRecDepth 100000 in
theorem qBm(A:Option Addr)(n c:Nat)(l:List Int)(w:World)(hn:l.length=n)(hr:Rd w A (l.map (Value.int .i64)))(hl:n≤1000):Calls prog 234 #[.slice A n c] w (zY w (orL l)):=by
 subst hn
 go_enter func234,Tryz.ntmps234
 go_wp2
 go_loop [5,8] (fun _ d=>∃k:Nat,d= .int .i64 (k:Int)∧k≤l.length∧Hid (orL l=orL (l.drop k))) (fun _ d=>l.length-(intOf d).toNat)
 case atStart=>exact⟨0,rfl,by omega,Lib.hid rfl⟩
 case round=>
  obtain⟨k,rfl,f,hi⟩:=hrel;by_cases hlt:k<l.length
  · obtain⟨z,b⟩:∃z,l[k]? =some z:=⟨l[k],jj hlt⟩
    have hd:l.drop k=z::l.drop (k+1):=by
     rw[vX hlt];congr 1;have:=jj hlt;rw[this]at b;injection b
    rw[hd]at hi;obtain⟨ad,rfl,g⟩:=hr.at_ (k:=k) (u:=.int .i64 z) (by rw[vq,b];rfl);clear b hd;by_cases a:z=0
    · have hb:(z !=0)=false:=by simpa using a
      have e:Hid (orL l=orL (l.drop (k+1))):=by rw[hi.out,orL,if_neg (by simpa using a)];exact Lib.hid rfl
      clear a
      go_wp2
      go_round
      case rel=>exact⟨k+1,by go_num,by omega,e⟩
      case measure=>simp[intOf];omega
    · have hb:(z !=0)=true:=by simpa using a
      have e:Hid (orL l=z):=by rw[hi.out,orL,if_pos a];exact Lib.hid rfl
      clear a
      go_wp2
      go_ret
      exact zY.mk e.out.symm
  · rw[vo oa]at hi
    go_wp2
    go_ret
    exact zY.mk hi.out.symm
set_option maxRecDepth 100000 in
theorem qry(n:Nat)(hM:n≤1000000000)
 (V:Hid (∀(ts us:List T)(v u:Value)(w:World),wtL ts≤n→ts.length=us.length→SlT w ts v→SlT w us u→Calls prog 323 #[v,u] w (Ret w (Is (.int .i64 (cmpL ts us))))))
 (t u:T) (v x:Value) (w:World) (hn:wtL t.ar≤n) (C:VT w t v) (M:VT w u x):Calls prog 356 #[v,x] w (Ret w (Is (.int .i64 (yk t u)))):=by
 have E:=Lib.hid (qpL t u);obtain⟨sl,rfl,hs,-⟩:=C.open_;obtain⟨sx,rfl,hy,-⟩:=M.open_;clear C M;obtain⟨B,d,xs,rfl,z⟩:=hs;obtain⟨D,d2,ys,rfl,A⟩:=hy;have W:Hid (SlT w t.ar (.slice B t.ar.length d)):=⟨B,d,xs,rfl,z⟩
 have X:Hid (SlT w u.ar (.slice D u.ar.length d2)):=⟨D,d2,ys,rfl,A⟩
 clear z A;by_cases p:zP (zl t.k) (zl u.k)=0
 · have hb:(zP (zl t.k) (zl u.k) !=0)=false:=by simpa using p
   have b:Hid (yk t u=if zl t.k=0∨zl t.k=1 then zP t.i u.i
    else if zl t.k=2 then orI (zP t.ar.length u.ar.length) (orI (yr t.s u.s) (cmpL t.ar u.ar))
    else orI (zP t.k u.k) (orI (zP t.i u.i) (yr t.s u.s))):=by rw[E.out];unfold orI;rw[if_neg (by simpa using p)];exact Lib.hid rfl
   have hr:=qtF t.k;clear p E;by_cases l:zl t.k=0
   · have c:Hid (yk t u=zP t.i u.i):=by rw[b.out,if_pos (.inl l)];exact Lib.hid rfl
     have N:(zl t.k==0)=true:=by simpa using l
     clear l hr b
     go_enter func356,Tryz.ntmps356
     go_wp2_with fail
     go_quiet ((first|(go_at_call 383;exact qcY (qe3 _ _))|(go_at_call 235;exact qcY (qeN _ _ _))))
     go_wp2_with fail
     refine(qe3 _ _).mono ?_;rintro e w1 ⟨rfl,rfl⟩
     go_wp2_with fail
     refine(qeN _ _ _).mono ?_;rintro e w1 ⟨rfl,rfl⟩
     go_wp2
     go_ret
     rw[c.out];exact Ret.mk rfl ((((Ext.rfl' w).al _).al _).drN _)
   by_cases q:zl t.k=1
   · have c:Hid (yk t u=zP t.i u.i):=by rw[b.out,if_pos (.inr q)];exact Lib.hid rfl
     have N:(zl t.k==0)=false:=by simpa using l
     have Y:(zl t.k==1)=true:=by simpa using q
     clear l q hr b
     go_enter func356,Tryz.ntmps356
     go_wp2_with fail
     go_quiet ((first|(go_at_call 383;exact qcY (qe3 _ _))|(go_at_call 235;exact qcY (qeN _ _ _))))
     go_wp2_with fail
     refine(qe3 _ _).mono ?_;rintro e w1 ⟨rfl,rfl⟩
     go_wp2_with fail
     refine(qeN _ _ _).mono ?_;rintro e w1 ⟨rfl,rfl⟩
     go_wp2
     go_ret
     rw[c.out];exact Ret.mk rfl ((((Ext.rfl' w).al _).al _).drN _)
   have c:Hid (yk t u=if zl t.k=2 then orI (zP t.ar.length u.ar.length) (orI (yr t.s u.s) (cmpL t.ar u.ar))else orI (zP t.k u.k) (orI (zP t.i u.i) (yr t.s u.s))):=by
    rw[b.out,if_neg oa];exact Lib.hid rfl
   have N:(zl t.k==0)=false:=by simpa using l
   have Y:(zl t.k==1)=false:=by simpa using q
   clear b;by_cases r:zl t.k=2
   · have f:Hid (yk t u=orI (zP t.ar.length u.ar.length) (orI (yr t.s u.s) (cmpL t.ar u.ar))):=by rw[c.out,if_pos r];exact Lib.hid rfl
     have Z:(zl t.k==2)=true:=by simpa using r
     clear c l q r hr;by_cases m:zP t.ar.length u.ar.length=0
     · have bl:(zP (t.ar.length:Int) (u.ar.length:Int) !=0)=false:=by simpa using m
       have g:Hid (yk t u=orI (yr t.s u.s) (cmpL t.ar u.ar)):=by rw[f.out];unfold orI;rw[if_neg (by simpa using m)];exact Lib.hid rfl
       have LL:Hid (t.ar.length=u.ar.length):=by have:=qkW m;exact Lib.hid oa
       clear m f;by_cases s1:yr t.s u.s=0
       · have bs:(yr t.s u.s !=0)=false:=by simpa using s1
         have o:Hid (yk t u=cmpL t.ar u.ar):=by rw[g.out];unfold orI;rw[if_neg (by simpa using s1)];exact Lib.hid rfl
         clear s1 g
         go_enter func356,Tryz.ntmps356
         go_wp2_with fail
         go_quiet ((first|(go_at_call 383;exact qcY (qe3 _ _))|(go_at_call 235;exact qcY (qeN _ _ _))))
         go_wp2_with fail
         refine(qe3 _ _).mono ?_;rintro e w1 ⟨rfl,rfl⟩
         go_wp2_with fail
         refine(qeN _ _ _).mono ?_;rintro e w1 ⟨rfl,rfl⟩
         go_wp2_with fail
         refine(qqC _ _ _).mono ?_;rintro e w1 ⟨rfl,rfl⟩
         go_wp2_with fail
         refine((za V) t.ar u.ar _ _ _ hn LL.out (W.out.ext ((((Ext.rfl' w).al _).al _).drN _)) (X.out.ext ((((Ext.rfl' w).al _).al _).drN _))).mono ?_;rintro e w1 ⟨v,rfl,C,he⟩;obtain rfl:v=_:=C
         go_wp2
         go_ret
         rw[o.out];exact Ret.mk rfl (((((Ext.rfl' w).al _).al _).drN _).tr he)
       · have bs:(yr t.s u.s !=0)=true:=by simpa using s1
         have o:Hid (yk t u=yr t.s u.s):=by rw[g.out];unfold orI;rw[if_pos s1];exact Lib.hid rfl
         clear s1 g
         go_enter func356,Tryz.ntmps356
         go_wp2_with fail
         go_quiet ((first|(go_at_call 383;exact qcY (qe3 _ _))|(go_at_call 235;exact qcY (qeN _ _ _))))
         go_wp2_with fail
         refine(qe3 _ _).mono ?_;rintro e w1 ⟨rfl,rfl⟩
         go_wp2_with fail
         refine(qeN _ _ _).mono ?_;rintro e w1 ⟨rfl,rfl⟩
         go_wp2_with fail
         refine(qqC _ _ _).mono ?_;rintro e w1 ⟨rfl,rfl⟩
         go_wp2
         go_ret
         rw[o.out];exact Ret.mk rfl ((((Ext.rfl' w).al _).al _).drN _)
     · have bl:(zP (t.ar.length:Int) (u.ar.length:Int) !=0)=true:=by simpa using m
       have g:Hid (yk t u=zP t.ar.length u.ar.length):=by rw[f.out];unfold orI;rw[if_pos m];exact Lib.hid rfl
       clear m f
       go_enter func356,Tryz.ntmps356
       go_wp2_with fail
       go_quiet ((first|(go_at_call 383;exact qcY (qe3 _ _))|(go_at_call 235;exact qcY (qeN _ _ _))))
       go_wp2_with fail
       refine(qe3 _ _).mono ?_;rintro e w1 ⟨rfl,rfl⟩
       go_wp2_with fail
       refine(qeN _ _ _).mono ?_;rintro e w1 ⟨rfl,rfl⟩
       go_wp2
       go_ret
       rw[g.out];exact Ret.mk rfl ((((Ext.rfl' w).al _).al _).drN _)
   have f:Hid (yk t u=orL [zP t.k u.k,zP t.i u.i,yr t.s u.s]):=by
    rw[c.out,if_neg r];unfold orI orL orL orL orL;refine Lib.hid ?_;split<;>(try rfl)
    split<;>(try rfl)
    split<;>simp_all
   have Z:(zl t.k==2)=false:=by simpa using r
   clear c l q r hr
   go_enter func356,Tryz.ntmps356
   go_wp2_with fail
   go_quiet ((first|(go_at_call 383;exact qcY (qe3 _ _))|(go_at_call 235;exact qcY (qeN _ _ _))))
   go_wp2_with fail
   refine(qe3 _ _).mono ?_;rintro e w1 ⟨rfl,rfl⟩
   go_wp2_with fail
   have O:=qrI w #[.int .i64 t.k,.int .i64 t.i,.string t.s,.slice B t.ar.length d] #[.int .i64 u.k,.int .i64 u.i,.string u.s,.slice D u.ar.length d2] 77 77 nq;generalize ((w.alloc (.cells #[.int .i64 t.k,.int .i64 t.i,.string t.s,.slice B t.ar.length d] 77)).alloc (.cells #[.int .i64 u.k,.int .i64 u.i,.string u.s,.slice D u.ar.length d2] 77)).drewN nq=y at O⊢;obtain⟨F,h,j⟩:=O;have P:y.cell? ⟨w.heap.size,0,none⟩=some (.int .i64 t.k):=h 0;have Q:y.cell? ⟨w.heap.size,1,none⟩=some (.int .i64 t.i):=h 1;have R:y.cell? ⟨w.heap.size,2,none⟩=some (.string t.s):=h 2;have S:y.cell? ⟨w.heap.size+1,0,none⟩=some (.int .i64 u.k):=j 0;have m1:y.cell? ⟨w.heap.size+1,1,none⟩=some (.int .i64 u.i):=j 1;have U:y.cell? ⟨w.heap.size+1,2,none⟩=some (.string u.s):=j 2;clear h j;refine qdr [(0,true),(1,true),(2,true),(3,true),(5,true),(6,true),(7,true),(8,true),(10,true),(11,true),(12,true),(13,true),(4,false),(9,false),(14,false),(15,false),(16,false),(17,true)] ob ob (Ext y) (Ext.rfl' y).dr ?_;iterate 12 (refine sQ rfl rfl ?_ ?_ ?_;rotate_left;(·(intro w' a;have G:=a.cellOf P;have H:=a.cellOf Q;have I:=a.cellOf R;have J:=a.cellOf S;have K:=a.cellOf m1;have L:=a.cellOf U;go_simp;try with_reducible rfl));try simp only[Act.put,jQ,jK,jN])
   refine sL rfl rfl ?_
   go_wp2_with fail
   refine(qeN _ _ _).mono ?_;rintro e w1 ⟨rfl,rfl⟩
   go_wp2_with fail
   refine SQ.mk ((Ext.rfl' y).dr) ?_;refine sL rfl rfl ?_
   go_wp2_with fail
   refine(qeN _ _ _).mono ?_;rintro e w1 ⟨rfl,rfl⟩
   go_wp2_with fail
   refine SQ.mk ((Ext.rfl' y).dr) ?_;refine sL rfl rfl ?_
   go_wp2_with fail
   refine(qqC _ _ _).mono ?_;rintro e w1 ⟨rfl,rfl⟩
   go_wp2_with fail
   refine SQ.mk ((Ext.rfl' y).dr) ?_;refine sL rfl rfl ?_
   go_wp2_with fail
   go_wp2_with fail
   refine SQ.mk ((Ext.rfl' y).dr.al _) ?_;refine sL rfl rfl ?_
   go_wp2_with fail
   refine(qBm _ 3 _ [zP t.k u.k,zP t.i u.i,yr t.s u.s] _ rfl ((Rd.newAt y _ #[.int .i64 (zP t.k u.k),.int .i64 (zP t.i u.i),.int .i64 (yr t.s u.s)] _ rfl).ext (Ext.rfl' _).dr) oa).mono ?_;rintro e w1 ⟨rfl,rfl⟩;have hF:=((Ext.rfl' y).al (.cells #[.int .i64 (zP t.k u.k),.int .i64 (zP t.i u.i),.int .i64 (yr t.s u.s)] 3)).dr
   go_wp2_with fail
   refine SQ.mk hF ?_;iterate 1 (refine sQ rfl rfl ?_ ?_ ?_;rotate_left;(·(intro w' a;have G:=a.cellOf P;have H:=a.cellOf Q;have I:=a.cellOf R;have J:=a.cellOf S;have K:=a.cellOf m1;have L:=a.cellOf U;go_simp;try with_reducible rfl));try simp only[Act.put,jQ,jK,jN])
   refine sE ?_
   go_wp2
   go_ret
   rw[f.out];exact Ret.mk rfl (F.tr hF)
 · have b:Hid (yk t u=zP (zl t.k) (zl u.k)):=by rw[E.out];unfold orI;rw[if_pos p];exact Lib.hid rfl
   have hb:(zP (zl t.k) (zl u.k) !=0)=true:=by simpa using p
   clear p
   go_enter func356,Tryz.ntmps356
   go_wp2_with fail
   go_quiet ((first|(go_at_call 383;exact qcY (qe3 _ _))|(go_at_call 235;exact qcY (qeN _ _ _))))
   go_wp2_with fail
   go_wp2
   go_ret
   rw[b.out];exact Ret.mk rfl ((((Ext.rfl' w).al _).al _).drN _)
def zcQ(W:World)(ts us:List T)(v9:Value)(wr:World):Prop:= ∃k:Nat,v9= .int .i64 (k:Int)∧k≤ts.length∧Hid (cmpL ts us=cmpL (ts.drop k) (us.drop k))∧Ext W wr
set_option maxRecDepth 100000 in
theorem qq2(n:Nat)(hM:n≤1000000000)
 (U:Hid (∀(t u:T)(v x:Value)(w:World),wt t≤n→VT w t v→VT w u x→Calls prog 356 #[v,x] w (Ret w (Is (.int .i64 (yk t u))))))
 (ts us:List T) (v x:Value) (w:World) (hn:wtL ts≤n) (hlen:ts.length=us.length) (L:SlT w ts v) (M:SlT w us x):Calls prog 323 #[v,x] w (Ret w (Is (.int .i64 (cmpL ts us)))):=by
 have j:=L;have l:=M;obtain⟨A,c,xs,rfl,-⟩:=L;obtain⟨B,d,ys,rfl,-⟩:=M;have V:ts.length≤1000000000:=by have:=qhw ts;omega
 have W:ts.length≤us.length:=by omega
 have HL:=Lib.hid hlen;have X:Hid (wtL ts≤n):=hn;clear hlen hn
 go_enter func323,Tryz.ntmps323
 go_wp2
 go_loopw [5,6,9] (fun _ _ v9 wr=>zcQ w ts us v9 wr) (fun _ _ v9 _=>ts.length-(intOf v9).toNat)
 case atStart=>exact⟨0,rfl,by omega,Lib.hid rfl,Ext.rfl' w⟩
 case round=>
  obtain⟨k,rfl,hk,hi,he⟩:=hrel;by_cases hlt:k<ts.length
  · obtain⟨t,h⟩:∃t,ts[k]? =some t:=⟨ts[k],jj hlt⟩
    obtain⟨u,hu⟩:∃u,us[k]? =some u:=⟨us[k]'(by omega),jj oa⟩
    have Y:k<us.length:=by omega
    obtain⟨b,o,sl,rfl,c0,N,O,P,-,m⟩:=(j.ext he).at_ h;obtain⟨b2,o2,sx,rfl,Q,m1,R,S,-,p⟩:=(l.ext he).at_ hu;rw[qsp h hu]at hi;have Z:Hid (wt t≤n):=by have:=qdT (List.mem_of_getElem? h);have:=X.out;exact Lib.hid oa
    clear h hu
    go_wp2_with fail
    refine qdr [(0,true),(1,true),(2,true),(3,true),(4,true),(5,true),(6,true),(7,true),(8,false),(9,true)] ob ob (Ext wr) (Ext.rfl' wr).dr ?_;iterate 8 (refine sQ rfl rfl ?_ ?_ ?_;rotate_left;(·(intro w' a;have q:=a.cellOf c0;have r:=a.cellOf N;have z:=a.cellOf O;have C:=a.cellOf P;have E:=a.cellOf Q;have F:=a.cellOf m1;have G:=a.cellOf R;have H:=a.cellOf S;go_simp;try with_reducible rfl));try simp only[Act.put,jQ,jK,jN])
    refine sL rfl rfl ?_
    go_wp2_with fail
    refine((za U) t u _ _ _ Z.out (m.ext (Ext.rfl' wr).dr) (p.ext (Ext.rfl' wr).dr)).mono ?_;rintro e w2 ⟨v,rfl,I,J⟩;obtain rfl:v=_:=I;have f:Ext wr w2:=(Ext.rfl' wr).dr.tr J
    go_wp2_with fail
    refine SQ.mk f ?_;iterate 1 (refine sQ rfl rfl ?_ ?_ ?_;rotate_left;(·(intro w' a;have q:=a.cellOf c0;have r:=a.cellOf N;have z:=a.cellOf O;have C:=a.cellOf P;have E:=a.cellOf Q;have F:=a.cellOf m1;have G:=a.cellOf R;have H:=a.cellOf S;go_simp;try with_reducible rfl));try simp only[Act.put,jQ,jK,jN])
    refine sE ?_;by_cases g:yk t u=0
    · have hb:(yk t u !=0)=false:=by simpa using g
      have K:Hid (cmpL ts us=cmpL (ts.drop (k+1)) (us.drop (k+1))):=by rw[hi.out];unfold orI;rw[if_neg (by simpa using g)];exact Lib.hid rfl
      clear g
      go_wp2
      go_roundw
      case rel=>exact⟨k+1,by go_num,by omega,K,he.tr f⟩
      case measure=>simp[intOf];omega
    · have hb:(yk t u !=0)=true:=by simpa using g
      have K:Hid (cmpL ts us=yk t u):=by rw[hi.out];unfold orI;rw[if_pos g];exact Lib.hid rfl
      clear g
      go_wp2
      go_ret
      rw[K.out];exact Ret.mk rfl (he.tr f)
  · rw[vo oa]at hi
    go_wp2
    go_ret
    rw[hi.out];exact Ret.mk (by simp only[cmpL];rfl) he
theorem qkk:∀(n:Nat),n≤1000000000→∀(t u:T)(v x:Value)(w:World),wt t≤n→VT w t v→VT w u x→Calls prog 356 #[v,x] w (Ret w (Is (.int .i64 (yk t u))))
 |0,_,t,_,_,_,_,hn,_,_=>by rw[qd4]at hn;omega
 |n+1,g,t,u,v,x,w,hn,a,b=>
  qry n oa (Lib.hid fun ts us v u w c d e f=>qq2 n oa (Lib.hid (qkk n oa)) ts us v u w c d e f) t u v x w (by rw[qd4]at hn;omega) a b
theorem qxX(n:Nat)(a:n≤1000000000)(ts us:List T)(v x:Value)(w:World)(hn:wtL ts≤n)(hlen:ts.length=us.length)(b:SlT w ts v)(c:SlT w us x):Calls prog 323 #[v,x] w (Ret w (Is (.int .i64 (cmpL ts us)))):=
 qq2 n a (Lib.hid (qkk n a)) ts us v x w hn hlen b c
def yC(ts us:List T):Int:=orI (cmpL ts us) (zP ts.length us.length)
theorem qkQ{ts us:List T}(h:ts.length=us.length):yC ts us=cmpL ts us:=by
 unfold yC;rw[h,qsd];unfold orI;split
 rfl;rename_i a;simpa using(by simpa using a:cmpL ts us=0).symm
theorem qwJ:∀ts:List T,cmpL ts []=0
 |[]=>by simp only[cmpL]
 |t::ts=>by simp only[cmpL]
set_option maxRecDepth 100000 in
theorem qne(n:Nat)
 (HL:Hid (∀(ts us:List T)(v u:Value)(w:World),wtL ts≤n→SlT w ts v→SlT w us u→Calls prog 264 #[v,u] w (Ret w (Is (.int .i64 (yC ts us))))))
 (t u:T) (v x:Value) (w:World) (hn:wtL t.ar≤n) (hv:VT w t v) (hx:VT w u x):Calls prog 210 #[v,x] w (Ret w (Is (.int .i64 (yk t u)))):=by
 have HF:=Lib.hid (qpL t u);have X:=hv;have Y:=hx;obtain⟨sl,rfl,hs,-⟩:=hv.open_;obtain⟨sx,rfl,hy,-⟩:=hx.open_;obtain⟨B,d,xs,rfl,Z⟩:=hs;obtain⟨D,d2,ys,rfl,hy'⟩:=hy;have HS:Hid (SlT w t.ar (.slice B t.ar.length d)):=⟨B,d,xs,rfl,Z⟩
 have HY:Hid (SlT w u.ar (.slice D u.ar.length d2)):=⟨D,d2,ys,rfl,hy'⟩
 have HV0:=Lib.hid X;have HX0:=Lib.hid Y;clear hv hx X Y Z hy'
 go_enter func210,Tryz.ntmps210
 go_wp2_with fail
 have hB:=qrI w #[.int .i64 t.k,.int .i64 t.i,.string t.s,.slice B t.ar.length d] #[.int .i64 u.k,.int .i64 u.i,.string u.s,.slice D u.ar.length d2] 77 77 0;rw[World.drewN_zero]at hB;generalize ((w.alloc (.cells #[.int .i64 t.k,.int .i64 t.i,.string t.s,.slice B t.ar.length d] 77)).alloc (.cells #[.int .i64 u.k,.int .i64 u.i,.string u.s,.slice D u.ar.length d2] 77))=y at hB⊢;obtain⟨h,H,I⟩:=hB;have M:Hid (VT y t _):=HV0.out.ext h;have HX:Hid (VT y u _):=HX0.out.ext h;have p:y.cell? ⟨w.heap.size,0,none⟩=some (.int .i64 t.k):=H 0;have q:y.cell? ⟨w.heap.size,1,none⟩=some (.int .i64 t.i):=H 1;have r:y.cell? ⟨w.heap.size,2,none⟩=some (.string t.s):=H 2;have z:y.cell? ⟨w.heap.size,3,none⟩=some (.slice B t.ar.length d):=H 3;have J:y.cell? ⟨w.heap.size+1,0,none⟩=some (.int .i64 u.k):=I 0;have m1:y.cell? ⟨w.heap.size+1,1,none⟩=some (.int .i64 u.i):=I 1;have K:y.cell? ⟨w.heap.size+1,2,none⟩=some (.string u.s):=I 2;have L:y.cell? ⟨w.heap.size+1,3,none⟩=some (.slice D u.ar.length d2):=I 3;clear H I;refine qdr [(0,true),(2,true),(1,false),(3,false),(4,false),(5,true)] ob ob (Ext y) (Ext.rfl' y).dr ?_;iterate 2 (refine sQ rfl rfl ?_ ?_ ?_;rotate_left;(·(intro w' c;have zk0:=c.cellOf p;have zk1:=c.cellOf q;have zk2:=c.cellOf r;have zk3:=c.cellOf z;have zm0:=c.cellOf J;have zm1:=c.cellOf m1;have zm2:=c.cellOf K;have zm3:=c.cellOf L;go_simp;try with_reducible rfl));try simp only[Act.put,jQ,jK,jN])
 refine sL rfl rfl ?_
 go_wp2_with fail
 refine(qfh t _ _ (M.out.ext (Ext.rfl' y).dr)).mono ?_;rintro e w1 ⟨v,rfl,hv1,he1⟩;obtain rfl:v=_:=hv1;have O:Ext y w1:=(Ext.rfl' y).dr.tr he1
 go_wp2_with fail
 refine SQ.mk O ?_;refine sL rfl rfl ?_
 go_wp2_with fail
 refine(qfh u _ _ (HX.out.ext O)).mono ?_;rintro e w2 ⟨v,rfl,hv2,he2⟩;obtain rfl:v=_:=hv2;have b:Ext y w2:=O.tr he2
 go_wp2_with fail
 refine SQ.mk b ?_;refine sL rfl rfl ?_
 go_wp2_with fail
 refine(qeh _ _ _).mono ?_;rintro e w1 ⟨rfl,rfl⟩
 go_wp2_with fail
 refine SQ.mk b ?_;iterate 1 (refine sQ rfl rfl ?_ ?_ ?_;rotate_left;(·(intro w' c;have zk0:=c.cellOf p;have zk1:=c.cellOf q;have zk2:=c.cellOf r;have zk3:=c.cellOf z;have zm0:=c.cellOf J;have zm1:=c.cellOf m1;have zm2:=c.cellOf K;have zm3:=c.cellOf L;go_simp;try with_reducible rfl));try simp only[Act.put,jQ,jK,jN])
 refine sE ?_;by_cases U:zP (zl t.k) (zl u.k)=0
 · have hb:(zP (zl t.k) (zl u.k) !=0)=false:=by simpa using U
   have A:Hid (yk t u=if zl t.k=0∨zl t.k=1 then zP t.i u.i
    else if zl t.k=2 then orI (zP t.ar.length u.ar.length) (orI (yr t.s u.s) (cmpL t.ar u.ar))
    else orI (zP t.k u.k) (orI (zP t.i u.i) (yr t.s u.s))):=by rw[HF.out];unfold orI;rw[if_neg (by simpa using U)];exact Lib.hid rfl
   have hr:=qtF t.k;clear U HF;by_cases N:zl t.k=0
   · have C:Hid (yk t u=zP t.i u.i):=by rw[A.out,if_pos (.inl N)];exact Lib.hid rfl
     have b0:(zl t.k==0)=true:=by simpa using N
     clear N hr A;have z0:=b.cellOf p;have l:=b.cellOf q;have m:=b.cellOf r;have z3:=b.cellOf z
     go_wp2_with fail
     refine(qfh t _ _ (M.out.ext b)).mono ?_;rintro e E ⟨v,rfl,f,g⟩;obtain rfl:v=_:=f;have a:Ext y E:=b.tr g;clear z0 l m z3;have z0:=a.cellOf p;have l:=a.cellOf q;have m:=a.cellOf r;have z3:=a.cellOf z;have P:=a.cellOf J;have Q:=a.cellOf m1;have R:=a.cellOf K;have S:=a.cellOf L
     go_wp2_with fail
     refine(qeh _ _ _).mono ?_;rintro e w1 ⟨rfl,rfl⟩
     go_wp2
     go_ret
     rw[C.out];exact Ret.mk rfl (h.tr a)
   by_cases V:zl t.k=1
   · have C:Hid (yk t u=zP t.i u.i):=by rw[A.out,if_pos (.inr V)];exact Lib.hid rfl
     have b0:(zl t.k==0)=false:=by simpa using N
     have b1:(zl t.k==1)=true:=by simpa using V
     clear N V hr A;have z0:=b.cellOf p;have l:=b.cellOf q;have m:=b.cellOf r;have z3:=b.cellOf z
     go_wp2_with fail
     refine(qfh t _ _ (M.out.ext b)).mono ?_;rintro e E ⟨v,rfl,f,g⟩;obtain rfl:v=_:=f;have a:Ext y E:=b.tr g;clear z0 l m z3;have z0:=a.cellOf p;have l:=a.cellOf q;have m:=a.cellOf r;have z3:=a.cellOf z;have P:=a.cellOf J;have Q:=a.cellOf m1;have R:=a.cellOf K;have S:=a.cellOf L
     go_wp2_with fail
     refine(qeh _ _ _).mono ?_;rintro e w1 ⟨rfl,rfl⟩
     go_wp2
     go_ret
     rw[C.out];exact Ret.mk rfl (h.tr a)
   have C:Hid (yk t u=if zl t.k=2 then orI (zP t.ar.length u.ar.length) (orI (yr t.s u.s) (cmpL t.ar u.ar))else orI (zP t.k u.k) (orI (zP t.i u.i) (yr t.s u.s))):=by
    rw[A.out,if_neg oa];exact Lib.hid rfl
   have b0:(zl t.k==0)=false:=by simpa using N
   have b1:(zl t.k==1)=false:=by simpa using V
   clear A;by_cases W:zl t.k=2
   · have o:Hid (yk t u=orI (zP t.ar.length u.ar.length) (orI (yr t.s u.s) (cmpL t.ar u.ar))):=by rw[C.out,if_pos W];exact Lib.hid rfl
     have b2:(zl t.k==2)=true:=by simpa using W
     clear C N V W hr;by_cases G:zP t.ar.length u.ar.length=0
     · have bl:(zP (t.ar.length:Int) (u.ar.length:Int)==0)=true:=by simpa using G
       have j:Hid (yk t u=orI (yr t.s u.s) (cmpL t.ar u.ar)):=by rw[o.out];unfold orI;rw[if_neg (by simpa using G)];exact Lib.hid rfl
       have LL:Hid (t.ar.length=u.ar.length):=by have:=qkW G;exact Lib.hid oa
       clear G o;by_cases s1:yr t.s u.s=0
       · have bs:(yr t.s u.s==0)=true:=by simpa using s1
         have F:Hid (yk t u=cmpL t.ar u.ar):=by rw[j.out];unfold orI;rw[if_neg (by simpa using s1)];exact Lib.hid rfl
         clear s1 j;have z0:=b.cellOf p;have l:=b.cellOf q;have m:=b.cellOf r;have z3:=b.cellOf z
         go_wp2_with fail
         refine(qfh t _ _ (M.out.ext b)).mono ?_;rintro e E ⟨v,rfl,f,g⟩;obtain rfl:v=_:=f;have a:Ext y E:=b.tr g;clear z0 l m z3;have z0:=a.cellOf p;have l:=a.cellOf q;have m:=a.cellOf r;have z3:=a.cellOf z;have P:=a.cellOf J;have Q:=a.cellOf m1;have R:=a.cellOf K;have S:=a.cellOf L
         go_wp2_with fail
         refine(qeh _ _ _).mono ?_;rintro e w1 ⟨rfl,rfl⟩
         go_wp2_with fail
         refine(qhZ _ _ _).mono ?_;rintro e w1 ⟨rfl,rfl⟩
         go_wp2_with fail
         refine((za HL) t.ar u.ar _ _ _ hn (HS.out.ext (h.tr a)) (HY.out.ext (h.tr a))).mono ?_;rintro e w4 ⟨v,rfl,hv4,he4⟩;obtain rfl:v=_:=hv4
         go_wp2
         go_ret
         rw[F.out,←qkQ LL.out];exact Ret.mk rfl ((h.tr a).tr he4)
       · have bs:(yr t.s u.s==0)=false:=by simpa using s1
         have F:Hid (yk t u=yr t.s u.s):=by rw[j.out];unfold orI;rw[if_pos s1];exact Lib.hid rfl
         clear s1 j;have z0:=b.cellOf p;have l:=b.cellOf q;have m:=b.cellOf r;have z3:=b.cellOf z
         go_wp2_with fail
         refine(qfh t _ _ (M.out.ext b)).mono ?_;rintro e E ⟨v,rfl,f,g⟩;obtain rfl:v=_:=f;have a:Ext y E:=b.tr g;clear z0 l m z3;have z0:=a.cellOf p;have l:=a.cellOf q;have m:=a.cellOf r;have z3:=a.cellOf z;have P:=a.cellOf J;have Q:=a.cellOf m1;have R:=a.cellOf K;have S:=a.cellOf L
         go_wp2_with fail
         refine(qeh _ _ _).mono ?_;rintro e w1 ⟨rfl,rfl⟩
         go_wp2_with fail
         refine(qhZ _ _ _).mono ?_;rintro e w1 ⟨rfl,rfl⟩
         go_wp2
         go_ret
         rw[F.out];exact Ret.mk rfl (h.tr a)
     · have bl:(zP (t.ar.length:Int) (u.ar.length:Int)==0)=false:=by simpa using G
       have j:Hid (yk t u=zP t.ar.length u.ar.length):=by rw[o.out];unfold orI;rw[if_pos G];exact Lib.hid rfl
       clear G o;have z0:=b.cellOf p;have l:=b.cellOf q;have m:=b.cellOf r;have z3:=b.cellOf z
       go_wp2_with fail
       refine(qfh t _ _ (M.out.ext b)).mono ?_;rintro e E ⟨v,rfl,f,g⟩;obtain rfl:v=_:=f;have a:Ext y E:=b.tr g;clear z0 l m z3;have z0:=a.cellOf p;have l:=a.cellOf q;have m:=a.cellOf r;have z3:=a.cellOf z;have P:=a.cellOf J;have Q:=a.cellOf m1;have R:=a.cellOf K;have S:=a.cellOf L
       go_wp2_with fail
       refine(qeh _ _ _).mono ?_;rintro e w1 ⟨rfl,rfl⟩
       go_wp2
       go_ret
       rw[j.out];exact Ret.mk rfl (h.tr a)
   have o:Hid (yk t u=orI (zP t.k u.k) (orI (zP t.i u.i) (yr t.s u.s))):=by rw[C.out,if_neg W];exact Lib.hid rfl
   have b2:(zl t.k==2)=false:=by simpa using W
   clear C N V W hr;by_cases G:zP t.k u.k=0
   · have bl:(zP t.k u.k==0)=true:=by simpa using G
     have j:Hid (yk t u=orI (zP t.i u.i) (yr t.s u.s)):=by rw[o.out];unfold orI;rw[if_neg (by simpa using G)];exact Lib.hid rfl
     clear G o;by_cases s1:zP t.i u.i=0
     · have bs:(zP t.i u.i==0)=true:=by simpa using s1
       have F:Hid (yk t u=yr t.s u.s):=by rw[j.out];unfold orI;rw[if_neg (by simpa using s1)];exact Lib.hid rfl
       clear s1 j;have z0:=b.cellOf p;have l:=b.cellOf q;have m:=b.cellOf r;have z3:=b.cellOf z
       go_wp2_with fail
       refine(qfh t _ _ (M.out.ext b)).mono ?_;rintro e E ⟨v,rfl,f,g⟩;obtain rfl:v=_:=f;have a:Ext y E:=b.tr g;clear z0 l m z3;have z0:=a.cellOf p;have l:=a.cellOf q;have m:=a.cellOf r;have z3:=a.cellOf z;have P:=a.cellOf J;have Q:=a.cellOf m1;have R:=a.cellOf K;have S:=a.cellOf L
       go_wp2_with fail
       refine(qeh _ _ _).mono ?_;rintro e w1 ⟨rfl,rfl⟩
       go_wp2_with fail
       refine(qeh _ _ _).mono ?_;rintro e w1 ⟨rfl,rfl⟩
       go_wp2_with fail
       refine(qhZ _ _ _).mono ?_;rintro e w1 ⟨rfl,rfl⟩
       go_wp2
       go_ret
       rw[F.out];exact Ret.mk rfl (h.tr a)
     · have bs:(zP t.i u.i==0)=false:=by simpa using s1
       have F:Hid (yk t u=zP t.i u.i):=by rw[j.out];unfold orI;rw[if_pos s1];exact Lib.hid rfl
       clear s1 j;have z0:=b.cellOf p;have l:=b.cellOf q;have m:=b.cellOf r;have z3:=b.cellOf z
       go_wp2_with fail
       refine(qfh t _ _ (M.out.ext b)).mono ?_;rintro e E ⟨v,rfl,f,g⟩;obtain rfl:v=_:=f;have a:Ext y E:=b.tr g;clear z0 l m z3;have z0:=a.cellOf p;have l:=a.cellOf q;have m:=a.cellOf r;have z3:=a.cellOf z;have P:=a.cellOf J;have Q:=a.cellOf m1;have R:=a.cellOf K;have S:=a.cellOf L
       go_wp2_with fail
       refine(qeh _ _ _).mono ?_;rintro e w1 ⟨rfl,rfl⟩
       go_wp2_with fail
       refine(qeh _ _ _).mono ?_;rintro e w1 ⟨rfl,rfl⟩
       go_wp2
       go_ret
       rw[F.out];exact Ret.mk rfl (h.tr a)
   · have bl:(zP t.k u.k==0)=false:=by simpa using G
     have j:Hid (yk t u=zP t.k u.k):=by rw[o.out];unfold orI;rw[if_pos G];exact Lib.hid rfl
     clear G o;have z0:=b.cellOf p;have l:=b.cellOf q;have m:=b.cellOf r;have z3:=b.cellOf z
     go_wp2_with fail
     refine(qfh t _ _ (M.out.ext b)).mono ?_;rintro e E ⟨v,rfl,f,g⟩;obtain rfl:v=_:=f;have a:Ext y E:=b.tr g;clear z0 l m z3;have z0:=a.cellOf p;have l:=a.cellOf q;have m:=a.cellOf r;have z3:=a.cellOf z;have P:=a.cellOf J;have Q:=a.cellOf m1;have R:=a.cellOf K;have S:=a.cellOf L
     go_wp2_with fail
     refine(qeh _ _ _).mono ?_;rintro e w1 ⟨rfl,rfl⟩
     go_wp2
     go_ret
     rw[j.out];exact Ret.mk rfl (h.tr a)
 · have A:Hid (yk t u=zP (zl t.k) (zl u.k)):=by rw[HF.out];unfold orI;rw[if_pos U];exact Lib.hid rfl
   have hb:(zP (zl t.k) (zl u.k) !=0)=true:=by simpa using U
   clear U
   go_wp2
   go_ret
   rw[A.out];exact Ret.mk rfl (h.tr b)
def zcg(W:World)(ts us:List T)(v5:Value)(wr:World):Prop:= ∃k:Nat,v5= .int .i64 (k:Int)∧k≤ts.length∧k≤us.length∧Hid (cmpL ts us=cmpL (ts.drop k) (us.drop k))∧Ext W wr
set_option maxRecDepth 100000 in
theorem qo8(n:Nat)(hM:n≤1000000000)
 (V:Hid (∀(t u:T)(v x:Value)(w:World),wt t≤n→VT w t v→VT w u x→Calls prog 210 #[v,x] w (Ret w (Is (.int .i64 (yk t u))))))
 (ts us:List T) (v x:Value) (w:World) (hn:wtL ts≤n) (M:SlT w ts v) (N:SlT w us x):Calls prog 264 #[v,x] w (Ret w (Is (.int .i64 (yC ts us)))):=by
 have l:=M;have m:=N;obtain⟨A,c,xs,rfl,-⟩:=M;obtain⟨B,d,ys,rfl,-⟩:=N;have W:ts.length≤1000000000:=by have:=qhw ts;omega
 have X:Hid (wtL ts≤n):=hn;clear hn
 go_enter func264,Tryz.ntmps264
 go_wp2
 go_loopw [5,6] (fun v5 _ wr=>zcg w ts us v5 wr) (fun v5 _ _=>ts.length-(intOf v5).toNat)
 case atStart=>exact⟨0,rfl,by omega,by omega,Lib.hid rfl,Ext.rfl' w⟩
 case round=>
  obtain⟨k,rfl,hk,Y,hi,he⟩:=hrel;by_cases hlt:k<ts.length
  · by_cases p:k<us.length
    · obtain⟨t,j⟩:∃t,ts[k]? =some t:=⟨ts[k],jj hlt⟩
      obtain⟨u,hu⟩:∃u,us[k]? =some u:=⟨us[k],jj p⟩
      obtain⟨b,o,sl,rfl,c0,O,P,Q,-,q⟩:=(l.ext he).at_ j;obtain⟨b2,o2,sx,rfl,R,m1,S,U,-,r⟩:=(m.ext he).at_ hu;rw[qsp j hu]at hi;have Z:Hid (wt t≤n):=by have:=qdT (List.mem_of_getElem? j);have:=X.out;exact Lib.hid oa
      clear j hu
      go_wp2_with fail
      refine qdr [(0,true),(1,true),(2,true),(3,true),(4,true),(5,true),(6,true),(7,true),(8,false),(9,true)] ob ob (Ext wr) (Ext.rfl' wr).dr ?_;iterate 8 (refine sQ rfl rfl ?_ ?_ ?_;rotate_left;(·(intro w' a;have z:=a.cellOf c0;have C:=a.cellOf O;have E:=a.cellOf P;have F:=a.cellOf Q;have G:=a.cellOf R;have H:=a.cellOf m1;have I:=a.cellOf S;have J:=a.cellOf U;go_simp;try with_reducible rfl));try simp only[Act.put,jQ,jK,jN])
      refine sL rfl rfl ?_
      go_wp2_with fail
      refine((za V) t u _ _ _ Z.out (q.ext (Ext.rfl' wr).dr) (r.ext (Ext.rfl' wr).dr)).mono ?_;rintro e w2 ⟨v,rfl,K,L⟩;obtain rfl:v=_:=K;have g:Ext wr w2:=(Ext.rfl' wr).dr.tr L
      go_wp2_with fail
      refine SQ.mk g ?_;iterate 1 (refine sQ rfl rfl ?_ ?_ ?_;rotate_left;(·(intro w' a;have z:=a.cellOf c0;have C:=a.cellOf O;have E:=a.cellOf P;have F:=a.cellOf Q;have G:=a.cellOf R;have H:=a.cellOf m1;have I:=a.cellOf S;have J:=a.cellOf U;go_simp;try with_reducible rfl));try simp only[Act.put,jQ,jK,jN])
      refine sE ?_;by_cases f:yk t u=0
      · have hb:(yk t u !=0)=false:=by simpa using f
        have h:Hid (cmpL ts us=cmpL (ts.drop (k+1)) (us.drop (k+1))):=by rw[hi.out];unfold orI;rw[if_neg (by simpa using f)];exact Lib.hid rfl
        clear f
        go_wp2
        go_roundw
        case rel=>exact⟨k+1,by go_num,by omega,by omega,h,he.tr g⟩
        case measure=>simp[intOf];omega
      · have hb:(yk t u !=0)=true:=by simpa using f
        have h:Hid (yC ts us=yk t u):=by
         unfold yC;rw[hi.out];unfold orI;rw[if_pos f,if_pos f];exact Lib.hid rfl
        clear f
        go_wp2
        go_ret
        rw[h.out];exact Ret.mk rfl (he.tr g)
    · have h:Hid (yC ts us=zP ts.length us.length):=by
       rw[vo (show us.length≤k by omega),qwJ]at hi;unfold yC;rw[hi.out];unfold orI;rw[if_neg og];exact Lib.hid rfl
      go_wp2_with fail
      refine(qeh _ _ _).mono ?_;rintro e w1 ⟨rfl,rfl⟩
      go_wp2
      go_ret
      rw[h.out];exact Ret.mk rfl he
  · have h:Hid (yC ts us=zP ts.length us.length):=by
     rw[vo (show ts.length≤k by omega)]at hi;have f:cmpL ts us=0:=by rw[hi.out];simp only[cmpL]
     unfold yC;rw[f];unfold orI;rw[if_neg og];exact Lib.hid rfl
    go_wp2_with fail
    refine(qeh _ _ _).mono ?_;rintro e w1 ⟨rfl,rfl⟩
    go_wp2
    go_ret
    rw[h.out];exact Ret.mk rfl he
theorem qhz:∀(n:Nat),n≤1000000000→∀(t u:T)(v x:Value)(w:World),wt t≤n→VT w t v→VT w u x→Calls prog 210 #[v,x] w (Ret w (Is (.int .i64 (yk t u))))
 |0,_,t,_,_,_,_,hn,_,_=>by rw[qd4]at hn;omega
 |n+1,f,t,u,v,x,w,hn,a,b=>
  qne n (Lib.hid fun ts us v u w c d e=>qo8 n oa (Lib.hid (qhz n oa)) ts us v u w c d e) t u v x w (by rw[qd4]at hn;omega) a b
theorem qq9(n:Nat)(a:n≤1000000000)(ts us:List T)(v x:Value)(w:World)(hn:wtL ts≤n)(b:SlT w ts v)(c:SlT w us x):Calls prog 264 #[v,x] w (Ret w (Is (.int .i64 (yC ts us)))):=
 qo8 n a (Lib.hid (qhz n a)) ts us v x w hn b c
def zaY(t u:T):Bool:=yk t u==0
theorem qxW(n:Nat)(c:n≤1000000000)(t u:T)(v x:Value)(w:World)(hn:wt t≤n)(a:VT w t v)(b:VT w u x):Calls prog 326 #[v,x] w (Ret w (Is (.bool (zaY t u)))):=by
 have f:=zH (fun w'(e:Ext w w')=>qkk n c t u v x w' hn (a.ext e) (b.ext e));obtain⟨sl,rfl,hs,-⟩:=a.open_;obtain⟨g,rfl,hy,-⟩:=b.open_;obtain⟨B,d,xs,rfl,-⟩:=hs;obtain⟨D,d2,ys,rfl,-⟩:=hy;clear a b
 go_enter func326,Tryz.ntmps326
 go_wp2_with fail
 refine((za f) _ (((Ext.rfl' w).al _).al _)).mono ?_;rintro e w1 ⟨v,rfl,a,he⟩;obtain rfl:v=_:=a
 go_wp2
 go_ret
 exact Ret.mk rfl ((((Ext.rfl' w).al _).al _).tr he)
theorem qto(n:Nat)(c:n≤1000000000)(t u:T)(v x:Value)(w:World)(hn:wt t≤n)(a:VT w t v)(b:VT w u x):Calls prog 140 #[v,x] w (Ret w (Is (.bool (zaY t u)))):=by
 have f:=zH (fun w'(e:Ext w w')=>qhz n c t u v x w' hn (a.ext e) (b.ext e));obtain⟨sl,rfl,hs,-⟩:=a.open_;obtain⟨g,rfl,hy,-⟩:=b.open_;obtain⟨B,d,xs,rfl,-⟩:=hs;obtain⟨D,d2,ys,rfl,-⟩:=hy;clear a b
 go_enter func140,Tryz.ntmps140
 go_wp2_with fail
 refine((za f) _ (((Ext.rfl' w).al _).al _)).mono ?_;rintro e w1 ⟨v,rfl,a,he⟩;obtain rfl:v=_:=a
 go_wp2
 go_ret
 exact Ret.mk rfl ((((Ext.rfl' w).al _).al _).tr he)
end Go.Proofs.YtgcegilpajfdhaaGreat
