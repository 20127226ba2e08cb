/-
 Texts of the seat,merged.
-/
import Derived.Test.YtgcegilpajfdhaaGreatLTB
set_option linter.unusedVariables false
set_option linter.unusedSimpArgs false
set_option linter.unnecessarySimpa false
set_option linter.all false
set_option maxHeartbeats 8000000
namespace Go.Proofs.YtgcegilpajfdhaaGreat
open Go.Proofs.Tryz
noncomputable section
set_option maxRecDepth 100000
open Go.RowKit
section
variable{P:Program}{o:Oper}{ρ:Operand→Option D}{d:D}
def Fld(P:Program)(s:TypeId)(f off:Nat):Prop:=∃fields fld n,P.underlying s=some (.struct fields)∧fields[f]? =some fld∧fld.offset=off∧(P.info? fld.type).map (·.size)=some n∧n≠0
theorem qkC{s:TypeId}{f off:Nat}(h:Fld P s f off)(w:World)(b a:Nat):(Instr.fieldAt s (.pointer (some ⟨b,a,none⟩)) f).run P w= .ok (.pointer (some ⟨b,a+off,none⟩)) w:=by
 obtain⟨fields,fld,n,e,g,rfl,j,l⟩:=h;obtain⟨i,hi,hn⟩:=jC.1 j;have c:¬i.size=0:=by omega
 simp[Instr.fieldAt,run_underlying e,g,Instr.sureAddr,fieldPlace,sizeOf,typeInfo,hi,c,zan]
theorem qan{s:TypeId}{x:Operand}{f off:Nat}{m:List D}(q:o.op= .fieldAddr s x f)(hF:Fld P s f off)(t:ρ x=some (.ptr (.agg m)))(hd:m[f]? =some d)(g:szs (m.take f)=off)(z:d.plain=true):zi P o ρ (.ptr d):=qM fun p a w h=>by
 have l:=h x (by rw[q];simp[Op.operands]) _ t;simp only[Rep]at l;obtain⟨b,o',u,l,e,⟨cs,rfl,A,_⟩,F⟩:=l;obtain⟨v,r,c⟩:=A.at_cell hd;refine⟨.pointer (some ⟨b,o'+off,none⟩),?_,?_⟩;unfold execOp;rw[q];simp[l,qkC hF];simp only[Rep];refine⟨b,o'+off,v,rfl,?_,r,Rep.one r z⟩;rcases e with e|⟨G,B,he,e⟩
 refine .inl (JP.2 fun y hy=>?_);obtain⟨j,n⟩:=List.mem_iff_getElem?.1 hy;have:=c j y n;simp[Value.cells]at e;rw[e]at this;simp at this;injection he with he;injection he with C E;subst C E
 refine .inr ⟨b,o'+off,rfl,fun j y n=>?_⟩;have:=e _ y (by simpa[Value.cells]using c j y n);rw[g,←jS]at this;exact this
theorem qjO{s:TypeId}{x:Operand}{f off b c:Nat}{path:List Nat}(e:o.op= .fieldAddr s x f)(hF:Fld P s f off)(j:ρ x=some (.ref b c path)):zi P o ρ (.ref b (c+off) (path++[f])):=qM fun p a w h=>by
 have g:=h x (by rw[e];simp[Op.operands]) _ j;simp only[Rep]at g;refine⟨.pointer (some ⟨b,c+off,none⟩),?_,by simp only[Rep]⟩;unfold execOp;rw[e];simp[g,qkC hF]
theorem qak{t:TypeId}{x:Operand}{n:Nat}(f:o.op= .load t x)(l:ρ x=some (.ptr d))(m:Ty P t d.isAgg n)(hn:sz d=n):zi P o ρ d:=qM fun p a w h=>by
 have e:=h x (by rw[f];simp[Op.operands]) _ l;simp only[Rep]at e;obtain⟨b,o',u,e,c,g,z⟩:=e;have hl:=qfT (P:=P) (b:=b) (o:=o') m hn g (fun j y hy=>by
  rcases c with c|⟨A,q,he,c⟩
  rw[c]at hy;simp at hy;injection he with he;injection he with r v;subst r v
  exact(c j y hy).2)
 refine⟨u,?_,g⟩;unfold execOp;rw[f];simp[e,Instr.loadAt,Instr.sureAddr,hl]
theorem qfW{fn:Fn}{first cap:Array Operand}{f cs:List D}(c:o.op= .makeFunc fn first cap)(j:first.toList.mapM ρ=some f)(m:cap.toList.mapM ρ=some cs):zi P o ρ (.clo fn f cs):=qM fun p a w h=>by
 have key:∀(l:List Operand)(ds:List D),(∀x∈l,∀d,ρ x=some d→Rep p w d (a.eval x))→l.mapM ρ=some ds→zB p w ds (l.map a.eval):=by
  intro l;induction l with
  |nil=>intro ds _ hm;simp at hm;subst hm;exact zB.nil _ _
  |cons x l n=>
   intro ds g hm;simp only[List.mapM_cons]at hm;cases b:ρ x with
   |none=>simp[b]at hm
   |some e=>
    cases hl:l.mapM ρ with
    |none=>simp[b,hl]at hm
    |some es=>
     simp[b,hl]at hm;subst hm;exact zB.cons (g x (je ..) e b) (n es (fun y hy=>g y (jp _ hy)) hl)
 refine⟨.func fn (first.map a.eval) (cap.map a.eval),?_,?_⟩;unfold execOp;rw[c];simp[Instr.makeFunc];simp only[Rep];refine⟨first.toList.map a.eval,cap.toList.map a.eval,?_,key _ _ (fun x b=>h x (by rw[c];simp only[Op.operands];exact vI.2 (.inl (by simpa using b)))) j,key _ _ (fun x b=>h x (by rw[c];simp only[Op.operands];exact vI.2 (.inr (by simpa using b)))) m⟩;congr 1<;>(apply jY.1;simp)
def zbq:Value→Bool |.slice none 0 0=>true |_=>false
theorem qrh{u:Value}(h:zbq u=true):u= .slice none 0 0:=by
 unfold zbq at h;split at h
 rfl;cases h
mutual
def zc:D→List Value |.bool b=>[.bool b] |.int k n=>[.int k n] |.str s=>[.string s] |.lst []=>[.slice none 0 0] |.own _ _=>[.slice none 0 0] |.vec _ _=>[.slice none 0 0] |.nilf=>[.nilFunc] |.nilm=>[.map none] |.nilp=>[.pointer none] |.agg a=>zcs a |_=>[]
def zcs:List D→List Value |[]=>[] |d::ds=>zc d++zcs ds
end
mutual
def zok:D→Bool |.bool _=>true |.int k n=>k.wrap n==n |.str s=>decide (s.size≤9223372036854775807) |.lst []=>true |.own u l=>zbq u&&l.isEmpty |.vec u n=>zbq u&&n==0 |.nilf=>true |.nilm=>true |.nilp=>true |.agg a=>zcc a |_=>false
def zcc:List D→Bool |[]=>true |d::ds=>zok d&&zcc ds
end
mutual
theorem qzn(p:Addr→Prop)(w:World):∀(d:D),zok d=true→∃v,Rep p w d v∧v.cells.toList=zc d∧∀u∈zc d,u.oneCell'=true
 |.bool b,_=>⟨.bool b,by simp only[Rep],rfl,by simp[zc,Value.oneCell']⟩
 |.int k n,h=>⟨.int k n,by simpa[Rep,zok]using h,rfl,by simp[zc,Value.oneCell']⟩
 |.str s,h=>⟨.string s,by simpa[Rep,zok]using h,rfl,by simp[zc,Value.oneCell']⟩
 |.lst [],_=>⟨.slice none 0 0,by simp only[Rep];exact⟨none,0,[],rfl,by simp,by omega,.inl rfl,zj.nil _ _,by simp⟩,rfl,by simp[zc,Value.oneCell']⟩
 |.lst (_::_),h=>by simp[zok]at h
 |.nilf,_=>⟨.nilFunc,by simp only[Rep],rfl,by simp[zc,Value.oneCell']⟩
 |.nilm,_=>⟨.map none,by simp only[Rep],rfl,by simp[zc,Value.oneCell']⟩
 |.nilp,_=>⟨.pointer none,by simp only[Rep],rfl,by simp[zc,Value.oneCell']⟩
 |.agg a,h=>by
  have e:zcc a=true:=by simpa[zok]using h
  obtain⟨f,c⟩:=qqU p w a e;exact⟨.agg (zcs a).toArray,by simp only[Rep];exact⟨zcs a,rfl,f,c⟩,by simp[Value.cells,zc],by simpa[zc]using c⟩
 |.full _,h=>by simp[zok]at h
 |.own u l,h=>by
  simp only[zok,jk]at h;obtain rfl:=qrh h.1;obtain rfl:l=[]:=by simpa using h.2
  exact⟨.slice none 0 0,by simp only[Rep];exact⟨trivial,none,0,[],rfl,by simp,by omega,.inl rfl,zj.nil _ _,by simp⟩,by simp[zc,Value.cells],by simp[zc,Value.oneCell']⟩
 |.vec u n,h=>by
  simp only[zok,jk,beq_iff_eq]at h;obtain rfl:=qrh h.1;obtain rfl:=h.2;exact⟨.slice none 0 0,by simp only[Rep];exact⟨trivial,none,0,rfl,by omega,by omega⟩,by simp[zc,Value.cells],by simp[zc,Value.oneCell']⟩
 |.ptr _,h=>by simp[zok]at h
 |.ref _ _ _,h=>by simp[zok]at h
 |.mref _ _ _ _ _,h=>by simp[zok]at h
 |.arr _ _ _ _,h=>by simp[zok]at h
 |.clo _ _ _,h=>by simp[zok]at h
 |.map _,h=>by simp[zok]at h
 |.ifc _ _,h=>by simp[zok]at h
 |.nili,h=>by simp[zok]at h
 |.tup _,h=>by simp[zok]at h
 |.undef,h=>by simp[zok]at h
theorem qqU(p:Addr→Prop)(w:World):∀(ds:List D),zcc ds=true→zj p w ds (zcs ds)∧∀u∈zcs ds,u.oneCell'=true
 |[],_=>⟨zj.nil _ _,by simp[zcs]⟩
 |d::ds,h=>by
  simp only[zcc,jk]at h;obtain⟨v,a,b,c⟩:=qzn p w d h.1;obtain⟨e,f⟩:=qqU p w ds h.2;refine⟨?_,fun u hu=>?_⟩;rw[zcs,←b];exact zj.cons a e;rcases jl.1 (by simpa[zcs]using hu)with hu|hu
  exact c u hu;exact f u hu
end
def lay(off:Nat):List D→List (Nat×Nat) |[]=>[] |d::ds=>(off,sz d)::lay (off+sz d) ds
theorem qrX:∀(ds:List D)(off i:Nat)(d:D),ds[i]? =some d→(lay off ds)[i]? =some (off+szs (ds.take i),sz d)
 |[],_,_,_,h=>by simp at h
 |e::ds,off,0,d,h=>by simp at h;subst h;simp[lay,szs]
 |e::ds,off,i+1,d,h=>by
  simp at h;rw[lay,JD,qrX ds _ i d h];simp[szs,jS]
def yB(P:Program)(t:TypeId)(zs:List D):Prop:=zcc zs=true∧∃it fields,P.info? t=some it∧it.zero=some (.agg (zcs zs).toArray)∧P.underlying t=some (.struct fields)∧fields.toList.mapM (fun f=>(P.info? f.type).map fun i=>(f.offset,i.size))=some (lay 0 zs)
theorem yB.mk{t:TypeId}{zs:List D}{fields:Array Field}(a:zcc zs=true)(b:(P.info? t).map (·.zero)=some (some (.agg (zcs zs).toArray)))(c:P.underlying t=some (.struct fields))(e:fields.toList.mapM (fun f=>(P.info? f.type).map fun i=>(f.offset,i.size))=some (lay 0 zs)):yB P t zs:=by
 obtain⟨it,g,h⟩:=jC.1 b;exact⟨a,it,fields,g,h,c,e⟩
theorem quK(off:Nat):∀(xs:List Value)(k:Nat)(cells:Array Value),off+k+xs.length≤cells.size→
 ((xs.zipIdx k).foldl (fun cs(p:Value×Nat)=>cs.setIfInBounds (off+p.2) p.1) cells).toList=cells.toList.take (off+k)++xs++cells.toList.drop (off+k+xs.length)
 |[],k,cells,_=>by simp
 |x::xs,k,cells,h=>by
  simp only[JQ,vj];simp only[jg]at h;rw[quK off xs (k+1) _ oe];have hlt:off+k<cells.toList.length:=by simp;omega
  simp only[Array.toList_setIfInBounds,jg];have a:(cells.toList.set (off+k) x).take (off+(k+1))=cells.toList.take (off+k)++[x]:=by
   rw[←jS,List.take_succ_eq_append_getElem (by simpa using hlt),List.take_set_of_le (jf _)];simp
  have b:(cells.toList.set (off+k) x).drop (off+(k+1)+xs.length)=cells.toList.drop (off+k+(xs.length+1)):=by
   rw[List.drop_set_of_lt oa];congr 1
   omega
  rw[a,b];simp
theorem qt7(place:Nat→Option (Nat×Nat))(cells:Array Value)(i off:Nat)(v:Value)(rest:List (Nat×Value))(a:place i=some (off,v.cells.size))(hs:off+v.cells.size≤cells.size):
 Instr.fill place cells ((i,v)::rest)=Instr.fill place (cells.toList.take off++v.cells.toList++cells.toList.drop (off+v.cells.size)).toArray rest:=by
 rw[Instr.fill];simp only[a];rw[if_neg oe];congr 1
 apply jY.1;have:=quK off v.cells.toList 0 cells oe;simp only[vh,j8]at this;rw[←this,←Array.foldl_toList];simp[Array.toList_zipIdx]
inductive zcH:List D→List (Nat×D)→List D→Prop
 |nil (zs:List D):zcH zs [] zs
 |cons {zs zs':List D} {ps:List (Nat×D)} {i:Nat} {z d:D} (hz:zs[i]? =some z) (hs:sz d=sz z) (hp:d.plain=true) (h:zcH (zs.set i d) ps zs'):zcH zs ((i,d)::ps) zs'
inductive Pts(ρ:Operand→Option D):List (Nat×Operand)→List (Nat×D)→Prop
 |nil:Pts ρ [] []
 |cons {i:Nat} {x:Operand} {e d:D} {ps:List (Nat×Operand)} {ds:List (Nat×D)} (hx:ρ x=some e) (hw:Wk e d) (h:Pts ρ ps ds):Pts ρ ((i,x)::ps) ((i,d)::ds)
theorem Pts.oc{ρ:Operand→Option D}{i:Nat}{x:Operand}{d:D}{ps:List (Nat×Operand)}{ds:List (Nat×D)}(h:ρ x=some d)(k:Pts ρ ps ds):Pts ρ ((i,x)::ps) ((i,d)::ds):=.cons h (Wk.refl d) k
theorem qvF:∀(zs:List D)(i:Nat)(z d:D),zs[i]? =some z→sz d=sz z→szs (zs.set i d)=szs zs
 |[],_,_,_,h,_=>by simp at h
 |e::zs,0,z,d,h,hs=>by simp at h;subst h;simp[szs,hs]
 |e::zs,i+1,z,d,h,hs=>by simp at h;simp[szs,qvF zs i z d h hs]
theorem qsW:∀(zs:List D)(off i:Nat)(z d:D),zs[i]? =some z→sz d=sz z→lay off (zs.set i d)=lay off zs
 |[],_,_,_,_,h,_=>by simp at h
 |e::zs,off,0,z,d,h,hs=>by simp at h;subst h;simp[lay,hs]
 |e::zs,off,i+1,z,d,h,hs=>by simp at h;simp[lay,qsW zs _ i z d h hs]
theorem zj.set{p:Addr→Prop}{w:World}:∀{zs:List D}{cs:List Value}{i:Nat}{z d:D}{v:Value},zj p w zs cs→zs[i]? =some z→sz d=sz z→Rep p w d v→zj p w (zs.set i d) (cs.take (szs (zs.take i))++v.cells.toList++cs.drop (szs (zs.take i)+sz d))
 |[],_,_,_,_,_,_,h,_,_=>by simp at h
 |e::zs,cs,0,z,d,v,hr,h,hs,b=>by
  simp only[zj]at hr;obtain⟨u,rest,rfl,a,c⟩:=hr;simp at h;subst h;have hu:u.cells.toList.length=sz d:=by rw[hs];simpa using Rep.sz a
  simp only[vY,szs,vY,jq,jc,jN];rw[←hu,List.drop_left];exact zj.cons b c
 |e::zs,cs,i+1,z,d,v,hr,h,hs,b=>by
  simp only[zj]at hr;obtain⟨u,rest,rfl,a,c⟩:=hr;simp at h;have hu:u.cells.toList.length=sz e:=by simpa using Rep.sz a
  have:=zj.set c h hs b;simp only[vQ,szs,jK];rw[←hu,v7,jS,Ja,jo,jo];rw[jo]at this;exact zj.cons a this
theorem qqo{p:Addr→Prop}{w:World}(place:Nat→Option (Nat×Nat)):∀{zs g:List D}{H:List (Nat×D)}{e:List (Nat×Value)}{cs:List Value},zcH zs H g→zj p w zs cs→(∀u∈cs,u.oneCell'=true)→
 (∀i z,zs[i]? =some z→place i=some (szs (zs.take i),sz z))→(∀i off n,place i=some (off,n)→(lay 0 zs)[i]? =some (off,n))→e.map (·.1)=H.map (·.1)→zB p w (H.map (·.2)) (e.map (·.2))→
 ∃h,Instr.fill place cs.toArray e=some h.toArray∧zj p w g h∧∀u∈h,u.oneCell'=true
 |zs,_,_,e,cs,.nil _,hr,G,_,_,hi,_=>by
  simp at hi;subst hi;exact⟨cs,rfl,hr,G⟩
 |zs,g,_,e,cs,.cons (i:=i) (z:=z) (d:=d) (ps:=ps) q hs N hF,hr,G,r,t,hi,L=>by
  cases e with
  |nil=>simp at hi
  |cons x e=>
   obtain⟨j,v⟩:=x;simp only[jm,List.cons.injEq]at hi;obtain⟨rfl,hi⟩:=hi;simp only[jm,zB]at L;obtain⟨U,rest,he,l,I⟩:=L;injection he with J K
   subst J K;have m:=Rep.sz l;have hlen:=hr.len;have hle:szs (zs.take j)+sz d≤cs.length:=by
    rw[hlen,hs];have O:=jd.1 q;have M:zs=zs.take j++z::zs.drop (j+1):=by
     rw[←O.2];simp
    have gen:∀(a b:List D),szs (a++b)=szs a+szs b:=by
     intro a;induction a with
     |nil=>simp[szs]
     |cons x a Q=>intro b;simp[szs,Q,jS]
    rw[M];simp only[gen,szs];have:(zs.take j++z::zs.drop (j+1)).take j=zs.take j:=by rw[←M]
    rw[this];omega
   rw[qt7 place cs.toArray j (szs (zs.take j)) v e (by rw[m,hs];exact r j z q) (by rw[m];simpa using hle)];have A:=zj.set hr q hs l;simp only[m];have B:∀u∈cs.take (szs (zs.take j))++v.cells.toList++cs.drop (szs (zs.take j)+sz d),u.oneCell'=true:=fun u hu=>by
    rcases jl.1 hu with hu|hu
    rcases jl.1 hu with hu|hu
    exact G u (j9 hu);exact Rep.one l N u hu;exact G u (vy hu)
   refine qqo place hF A B (fun C R E=>?_) (fun C off n S=>?_) hi I;have hl:=qrX (zs.set j d) 0 C R E;rw[qsW zs 0 j z d q hs]at hl;have F:=(jd.1 E).1;rw[vT]at F;have f:=jj F;have c:=qrX zs 0 C _ f;rw[hl]at c;injection c with c
   rw[r C _ f];simp only[jc]at c;rw[c];rw[qsW zs 0 j z d q hs];exact t C off n S
theorem qn2{p:Addr→Prop}{w:World}{a:Act}:∀{ps:List (Nat×Operand)}{b:List (Nat×D)},Pts ρ ps b→(∀x∈ps.map (·.2),∀d,ρ x=some d→Rep p w d (a.eval x))→
 (ps.map fun x=>(x.1,a.eval x.2)).map (·.1)=b.map (·.1)∧zB p w (b.map (·.2)) ((ps.map fun x=>(x.1,a.eval x.2)).map (·.2))
 |_,_,.nil,_=>⟨rfl,zB.nil _ _⟩
 |_,_,.cons c hw h,hr=>by
  obtain⟨e,f⟩:=qn2 h fun x hm=>hr x (by simp only[jm];exact jp _ hm);refine⟨by simp only[jm,e],?_⟩;simp only[jm];exact zB.cons (hw _ _ _ (hr _ og _ c)) f
theorem qgS{t:TypeId}{parts:Array (Nat×Operand)}{zs e:List D}{g:List (Nat×D)}(j:o.op= .build t parts)(l:yB P t zs)(m:Pts ρ parts.toList g)(hF:zcH zs g e):zi P o ρ (.agg e):=qM fun p a w h=>by
 obtain⟨f,it,fields,q,r,u,v⟩:=l;obtain⟨A,B⟩:=qqU p w zs f;obtain⟨C,E⟩:=qn2 (p:=p) (w:=w) (a:=a) m fun x F=>h x (by rw[j];simpa[Op.operands]using F);have b:∀i z,zs[i]? =some z→(lay 0 zs).toArray[i]? =some (szs (zs.take i),sz z):=fun i z f=>by
  have:=qrX zs 0 i z f;simpa using this
 obtain⟨c,G,H,I⟩:=qqo (p:=p) (w:=w) (fun i=>(lay 0 zs).toArray[i]?) hF A B b (fun i off n J=>by simpa using J) C E;refine⟨.agg c.toArray,?_,by simp only[Rep];exact⟨c,rfl,H,I⟩⟩;unfold execOp;rw[j];have hb:P.built t (parts.map fun(i,x)=>(i,a.eval x)).toList=some c.toArray:=by
  unfold Program.built;simp only[q,u,r,v,Value.cells];rw[←G];congr 1
  simp
 simp[run_build w t _ _ hb]
end
section
variable{P:Program}{o:Oper}{ρ:Operand→Option D}{d:D}
theorem Inv.fresh{K:Ctx}{p:Addr→Prop}{σ:St}{w:World}(h:Inv K p σ w)(cs:Array Value)(ty:TypeId):
 ∃c,Inv K c σ (w.alloc (.cells cs ty))∧zE p w c (w.alloc (.cells cs ty))∧RdP c (w.alloc (.cells cs ty)) (some ⟨w.heap.size,0,none⟩) cs.toList:=by
 have m:=h.alloc (.cells cs ty);have f:∀j u,cs.toList[j]? =some u→(w.alloc (.cells cs ty)).cell? ⟨w.heap.size,0+j,none⟩=some u:=fun j u hu=>by
  rw[jc,cell_of_row _ _ _ _ _ _ (heap_alloc_new w _)];simpa using hu
 refine⟨_,m.give (fun a=>a.block=w.heap.size∧a.spot=none∧a.off<cs.size) (fun a⟨g,l,n⟩=>?_),(qaw h.pub _).tr (qfd p _ _),.inr ⟨_,0,rfl,fun j u hu=>⟨.inr ⟨rfl,rfl,?_⟩,f j u hu⟩⟩⟩
 · obtain⟨b,of,sp⟩:=a
   simp only at g l n;subst g l;refine⟨⟨cs[of],?_⟩,.inl h.size,fun o' q b hb e=>?_⟩
   · have:=f of cs[of] og
     simp
   · have:=(h.ok o' q).lt hb
     simp only at e;omega
 · have:=(jd.1 hu).1
   simp at this⊢;exact this
theorem qns(h:∀(p:Addr→Prop)(a:Act)(w:World),(∀x∈o.op.operands,∀d,ρ x=some d→Rep p w d (a.eval x))→∃v cs ty,(execOp a.eval o).run P w= .ok (.value v) (w.alloc (.cells cs ty))∧∀b w',zE p w b w'→RdP b w' (some ⟨w.heap.size,0,none⟩) cs.toList→Rep b w' d v):zi P o ρ d:=fun σ K p a w hi e=>by
 obtain⟨v,cs,ty,f,g⟩:=h p a w e;obtain⟨b,j,c,l⟩:=hi.fresh cs ty;unfold Oper.wp;rw[f];exact⟨v,d,σ,b,rfl,⟨rfl,rfl⟩,g _ _ c l,j,c⟩
theorem ql5{e:TypeId}{x:Operand}(b:o.op= .box e x)(f:ρ x=some d)(j:d.plain=true):zi P o ρ (.ptr d):=qns fun p a w h=>by
 have c:=h x (by rw[b];simp[Op.operands]) d f;refine⟨.pointer (some ⟨w.heap.size,0,none⟩),(a.eval x).cells,e,?_,fun l w' g hr=>?_⟩;unfold execOp;rw[b];simp[Instr.box,newVar,newRow];simp only[Rep];exact⟨_,0,a.eval x,rfl,hr,c.grow g,Rep.one c j⟩
inductive yZ(ρ:Operand→Option D):List Operand→List D→Prop
 |nil:yZ ρ [] []
 |cons {x:Operand} {e d:D} {xs:List Operand} {ds:List D} (hx:ρ x=some e) (hw:Wk e d) (h:yZ ρ xs ds):yZ ρ (x::xs) (d::ds)
 |consN {xs:List Operand} {ds:List D} (h:yZ ρ xs ds):yZ ρ (.const (.slice none 0 0)::xs) (.own (.slice none 0 0) []::ds)
theorem yZ.oc{ρ:Operand→Option D}{x:Operand}{xs:List Operand}{d:D}{ds:List D}(h:ρ x=some d)(k:yZ ρ xs ds):yZ ρ (x::xs) (d::ds):=.cons h (Wk.refl d) k
theorem yZ.rep{p:Addr→Prop}{w:World}{a:Act}:∀{xs:List Operand}{ds:List D},yZ ρ xs ds→(∀x∈xs,∀d,ρ x=some d→Rep p w d (a.eval x))→zB p w ds (xs.map a.eval)
 |_,_,.nil,_=>zB.nil _ _
 |_,_,.cons b hw h,hr=>by
  simp only[jm];exact zB.cons (hw _ _ _ (hr _ (je ..) _ b)) (h.rep fun x hm=>hr x (jp _ hm))
 |_,_,.consN h,hr=>by
  simp only[jm];refine zB.cons ?_ (h.rep fun x hm=>hr x (jp _ hm));simp only[Rep];exact⟨rfl,none,0,[],rfl,by simp,by omega,.inl rfl,zj.nil _ _,by simp⟩
theorem zB.reps{p:Addr→Prop}{w:World}:∀{ds:List D}{a:List Value},zB p w ds a→zj p w ds (a.flatMap fun v=>v.cells.toList)
 |[],_,h=>by simp only[zB]at h;subst h;exact zj.nil _ _
 |d::ds,_,h=>by
  simp only[zB]at h;obtain⟨v,rest,rfl,b,c⟩:=h;simp only[vl];exact zj.cons b (zB.reps c)
theorem zB.ones{p:Addr→Prop}{w:World}:∀{ds:List D}{a:List Value},zB p w ds a→(∀d∈ds,d.plain=true)→∀u∈a.flatMap (fun v=>v.cells.toList),u.oneCell'=true
 |[],_,h,_=>by simp only[zB]at h;subst h;simp
 |d::ds,_,h,b=>by
  simp only[zB]at h;obtain⟨v,rest,rfl,c,f⟩:=h;intro u hu;simp only[vl]at hu;rcases jl.1 hu with hu|hu
  exact Rep.one c (b d (je ..)) u hu;exact zB.ones f (fun e he=>b e (jp _ he)) u hu
theorem zB.len{p:Addr→Prop}{w:World}:∀{ds:List D}{a:List Value},zB p w ds a→a.length=ds.length
 |[],_,h=>by simp only[zB]at h;subst h;rfl
 |d::ds,_,h=>by
  simp only[zB]at h;obtain⟨v,rest,rfl,c,b⟩:=h;simp[zB.len b]
theorem zB.szs{p:Addr→Prop}{w:World}{s:Nat}:∀{ds:List D}{a:List Value},zB p w ds a→zx s ds→∀v∈a,v.cells.size=s
 |[],_,h,_=>by simp only[zB]at h;subst h;simp
 |d::ds,_,h,hs=>by
  simp only[zB]at h;obtain⟨v,rest,rfl,b,c⟩:=h;intro u hu;rcases jx.1 hu with rfl|hu
  rw[Rep.sz b];exact hs d (je ..);exact zB.szs c (fun e he=>hs e (jp _ he)) u hu
theorem qqu(s:Nat):∀(a:List Value)(k:Nat)(pre junk:List Value),(∀v∈a,v.cells.size=s)→pre.length=k*s→junk.length=a.length*s→
 Instr.fill (fun i=>some (i*s,s)) (pre++junk).toArray ((a.zipIdx k).map fun x=>(x.2,x.1))=some (pre++a.flatMap (fun v=>v.cells.toList)).toArray
 |[],k,pre,junk,_,_,b=>by
  have:junk=[]:=jG (by simpa using b);subst this;simp[Instr.fill]
 |v::a,k,pre,junk,hs,c,b=>by
  have e:=hs v (je ..);simp only[jg,jE,vx]at b;simp only[JQ,jm,vl];rw[qt7 _ _ k (k*s) v _ (by rw[e]) oe];have f:(pre++junk).toArray.toList.take (k*s)=pre:=by simp[←c]
  have g:(pre++junk).toArray.toList.drop (k*s+v.cells.size)=junk.drop s:=by
   rw[e,←c];simp[Ja]
  rw[f,g];have:=qqu s a (k+1) (pre++v.cells.toList) (junk.drop s) (fun u hu=>hs u (jp _ hu)) (by simp[c,e,jE]) oe;rw[this,jo]
theorem qC3{t e:TypeId}{n s:Nat}{parts:Array (Nat×Operand)}{xs:List Operand}{ds:List D}{z:Value}(E:o.op= .buildSlice t n parts)(hu:P.underlying t=some (.slice e))(F:(P.info? e).map (fun i=>(i.zero,i.size))=some (some z,s))(c:0<s)(f:parts.toList=(xs.zipIdx 0).map fun x=>(x.2,x.1))(hn:n=xs.length)(r:0<n)(G:n*s≤16777216)(H:yZ ρ xs ds)(u:zx s ds)(A:∀d∈ds,d.plain=true):zi P o ρ (.full ds):=qns fun p a w h=>by
 have l:∀x∈xs,x∈o.op.operands:=fun x B=>by
  rw[E];simp only[Op.operands,List.mem_toArray,f,jR,jt,Function.comp];obtain⟨i,hi⟩:=List.mem_iff_getElem?.1 B;exact⟨(x,i),by rw[List.mem_zipIdx_iff_getElem?];simpa using hi,rfl⟩
 have hr:=H.rep (p:=p) (w:=w) (a:=a) fun x B=>h x (l x B);have hl:=hr.len;have m:ds.length=n:=by rw[←hl,jh,hn]
 obtain⟨i,hi,b⟩:=jC.1 F;simp only[Prod.mk.injEq]at b;refine⟨.slice (some ⟨w.heap.size,0,none⟩) n n,((xs.map a.eval).flatMap fun v=>v.cells.toList).toArray,e,?_,fun L w' g C=>?_⟩;unfold execOp;rw[E];have q:¬n*i.size=0:=by
  rw[b.2];have:=j6 r c;omega
 have I:Instr.fill (fun j=>some (j*i.size,i.size)) ((Array.range (n*i.size)).map (z.cells[·%z.cells.size]!)) ((parts.map fun(j,x)=>(j,a.eval x)).toList)=some ((xs.map a.eval).flatMap fun v=>v.cells.toList).toArray:=by
  have J:(parts.map fun(j,x)=>(j,a.eval x)).toList=((xs.map a.eval).zipIdx 0).map fun x=>(x.2,x.1):=by
   rw[Array.toList_map,f,List.zipIdx_map,jR,jR];rfl
  rw[J,b.2];have:=qqu s (xs.map a.eval) 0 [] ((Array.range (n*s)).map (z.cells[·%z.cells.size]!)).toList (hr.szs u) og (by simp[hn]);have K:((Array.range (n*s)).map (z.cells[·%z.cells.size]!)).toList.toArray=(Array.range (n*s)).map (z.cells[·%z.cells.size]!):=by rw[Array.toArray_toList]
  rw[jq,jq,K]at this;exact this
 simp[run_buildSlice w t e n _ _ i z hu hi b.1 (by rw[b.2];omega) q I];simp only[Rep];refine⟨some ⟨w.heap.size,0,none⟩,_,by rw[m],?_,C,?_,?_⟩;rw[m];have:n*1≤n*s:=JO n c;omega;simpa using(hr.reps).grow g;simpa using hr.ones A
theorem qB3{t e:TypeId}{parts:Array (Nat×Operand)}{s:Nat}(c:o.op= .buildSlice t 0 parts)(hu:P.underlying t=some (.slice e))(f:(P.info? e).map (·.size)=some s)(b:parts.toList=[]):zi P o ρ (.full []):=qns fun p a w h=>by
 obtain⟨i,hi,j⟩:=jC.1 f;refine⟨.slice (some ⟨w.heap.size,0,none⟩) 0 0,#[],e,?_,fun n w' g l=>?_⟩;unfold execOp;rw[c];have:parts= #[]:=jY.1 (by simpa using b);subst this;have m:Array.range 0= #[]:=rfl;simp[Instr.buildSlice,run_underlying hu,sizeOf,typeInfo,hi,Instr.fill,newRow,m];simp only[Rep];exact⟨_,[],rfl,by simp,.inl rfl,zj.nil _ _,by simp⟩
theorem qvK{p:Addr→Prop}{w:World}{A:Option Addr}{c s lo hi:Nat}{l:List D}{xs:List Value}(g:RdP p w A xs)(n:zj p w l xs)(q:∀u∈xs,u.oneCell'=true)(a:zx s l)(h:lo≤hi)(f:hi≤l.length)(v:l.length≤c):
 ∃ys,RdP p w (if c=lo then A else A.map (·.add (lo*s))) ys∧zj p w ((l.take hi).drop lo) ys∧∀u∈ys,u.oneCell'=true:=by
 by_cases he:c=lo
 · refine⟨[],.inl rfl,?_,by simp⟩
   have:(l.take hi).drop lo=[]:=vo oe;rw[this];exact zj.nil _ _
 · rw[if_neg he]
   have m:=(n.take hi).drop lo;have r:szs (l.take hi)=hi*s:=by rw[(a.take hi).szs,jA,vu f]
   have t:szs ((l.take hi).take lo)=lo*s:=by rw[((a.take hi).take lo).szs,jA,jA,vu f,vu h]
   rw[r,t]at m;refine⟨_,?_,m,fun u hu=>q u (j9 (vy hu))⟩;rcases g with g|⟨b,o',rfl,e⟩
   · subst g;exact .inl og
   · refine .inr ⟨b,o'+lo*s,by simp[zan],fun j u hu=>?_⟩
     rw[List.getElem?_drop,jZ]at hu;split at hu
     · have:=e _ u hu
       rw[←jS]at this;exact this
     · cases hu
def za2(ρ:Operand→Option D):Option Operand→Nat→Prop |none,n=>n=0 |some x,n=>∃k m,ρ x=some (.int k m)∧m=(n:Int)
def za1(ρ:Operand→Option D)(len:Nat):Option Operand→Nat→Prop |none,n=>n=len |some x,n=>∃k m,ρ x=some (.int k m)∧m=(n:Int)
theorem qC0{t e:TypeId}{x:Operand}{low high:Option Operand}{s lo hi:Nat}{F:D}{l:List D}(j:o.op= .slice t x low high none)(hu:P.underlying t=some (.slice e))(hs:(P.info? e).map (·.size)=some s)(H:ρ x=some F)(hl:AsL F l)(n:za2 ρ low lo)(q:za1 ρ l.length high hi)(b:lo≤hi)(r:hi≤l.length)(f:zx s l):zi P o ρ (.lst ((l.take hi).drop lo)):=qM fun p a w h=>by
 obtain⟨A,c,xs,I,J,X,K,L,M⟩:=hl.rep (h x (by rw[j];simp[Op.operands]) _ H);obtain⟨ys,N,O,Q⟩:=qvK K L M f b r J;obtain⟨i,u,z⟩:=jC.1 hs;have hlen:((l.take hi).drop lo).length=hi-lo:=by simp;omega
 refine⟨.slice (if c=lo then A else A.map (·.add (lo*s))) (hi-lo) (c-lo),?_,?_⟩;unfold execOp;rw[j];have R:((hi:Int)≤(c:Int)):=by omega
 have G:((lo:Int)≤(hi:Int)):=by omega
 have B:∀v,low.map a.eval=v→(match v with|some v=>Instr.sliceBound v hi .sliceB|none=>pure 0:Sem Nat).run P w= .ok lo w:=by
  intro v g;cases low with
  |none=>simp[za2]at n;subst g n;simp
  |some y=>
   obtain⟨k,m,C,rfl⟩:=n;have:=h y (by rw[j];simp[Op.operands]) _ C;simp only[Rep]at this;subst g;simp[this.1,Instr.sliceBound,asIntOf,b]
 have E:∀v,high.map a.eval=v→(match v with|some v=>Instr.sliceBound v c .sliceAcap|none=>pure l.length:Sem Nat).run P w= .ok hi w:=by
  intro v g;cases high with
  |none=>simp[za1]at q;subst g q;simp
  |some y=>
   obtain⟨k,m,C,rfl⟩:=q;have:=h y (by rw[j];simp[Op.operands]) _ C;simp only[Rep]at this;subst g;have:hi≤c:=by omega
   simp[*,Instr.sliceBound,asIntOf]
 have hb:(Instr.sliceBounds true l.length c (low.map a.eval) (high.map a.eval) none).run P w= .ok (lo,hi,c) w:=by
  have S:=B _ rfl;have U:=E _ rfl;unfold Instr.sliceBounds;cases V:low.map a.eval<;>cases W:high.map a.eval<;>simp only[V,W]at S U⊢<;>simp_all
 simp[I,Instr.sliceAt,Instr.slice,run_underlying hu,hb,sizeOf,typeInfo,u,z];simp only[Rep];exact⟨_,c-lo,ys,by rw[hlen],by rw[hlen];omega,by omega,N,O,Q⟩
theorem qCf{t e:TypeId}{x y z:Operand}{s hi:Nat}{C:D}{l:List D}{k H:IntKind}{m E:Int}(g:o.op= .slice t x none (some y) (some z))(hu:P.underlying t=some (.slice e))(hs:(P.info? e).map (·.size)=some s)(I:ρ x=some C)(hl:AsL C l)(hy:ρ y=some (.int k m))(hm:m=(hi:Int))(J:ρ z=some (.int H E))(n:E=(hi:Int))(K:hi≤l.length)(f:zx s l):zi P o ρ (.full (l.take hi)):=qM fun p a w h=>by
 obtain⟨A,c,xs,L,U,V,q,M,N⟩:=hl.rep (h x (by rw[g];simp[Op.operands]) _ I);obtain⟨ys,O,Q,R⟩:=qvK (p:=p) (w:=w) (A:=A) (s:=s) (c:=hi) (lo:=0) (hi:=hi) (l:=l.take hi) (xs:=xs.take (szs (l.take hi))) (by
  rcases q with q|⟨b,o',rfl,S⟩
  subst q;exact .inl og;refine .inr ⟨b,o',rfl,fun j u hu=>S j u ?_⟩;rw[jZ]at hu;split at hu
  exact hu;cases hu) (M.take hi) (fun u hu=>N u (j9 hu)) (f.take hi) (ju _) oe oe
 obtain⟨i,r,v⟩:=jC.1 hs;have F:=h y (by rw[g];simp[Op.operands]) _ hy;have G:=h z (by rw[g];simp[Op.operands]) _ J;simp only[Rep]at F G;have hlen:(l.take hi).length=hi:=by simp;omega
 refine⟨.slice (if hi=0 then A else A.map (·.add (0*s))) hi hi,?_,?_⟩;unfold execOp;rw[g];have B:hi≤c:=by omega
 have hb:(Instr.sliceBounds true l.length c none (some (a.eval y)) (some (a.eval z))).run P w= .ok (0,hi,hi) w:=by
  subst hm n;simp[Instr.sliceBounds,F.1,G.1,Instr.sliceBound,asIntOf,B]
 simp[L,Instr.sliceAt,Instr.slice,run_underlying hu,hb,sizeOf,typeInfo,r,v];simp only[Rep];refine⟨_,ys,by rw[hlen],by rw[hlen];omega,O,?_,R⟩;have:((l.take hi).take hi).drop 0=l.take hi:=by rw[vJ,vg oe]
 rwa [this]at Q
def callee(P:Program)(f:FuncId):Prop:=∃fn c,P.funcs[f]? =some fn∧fn.body=some c∧(fn.name== "runtime.NumGoroutine")=false
theorem qdn{f:FuncId}(h:callee P f)(a:Array Value)(w:World):(callFunc f a).run P w= .ok (.enter f a) w:=by
 obtain⟨fn,c,b,e,g⟩:=h;simp only[callFunc,Sem.run_bind,run_program,Result.andThen_ok,b];simp[g,e]
theorem qrL{K:Ctx}{p:Addr→Prop}{σ σ1 τ:St}{w:World}{a:Act}{dst:Option Tmp}{R:D→St→Prop}(hi:Inv K p σ w)(g:σ.Perm (σ1++τ)){e:Ending}{w':World}(h:Left (ctx w p σ1) R e w'):
 ∃v,e= .returned v∧∃f d σ' b,a.put dst v=a.put dst f∧(∃σ1',R d σ1'∧σ'=σ1'++τ)∧Rep b w' d f∧Inv K b σ' w'∧zE p w b w':=by
 obtain⟨v,d,σ1',b,rfl,hR,j,c⟩:=h.resolve_right fun⟨_,_,_,_,_,h,_⟩=>h;exact⟨v,rfl,v,d,_,b,rfl,⟨σ1',hR,rfl⟩,j,(hi.perm g).leave c,c.gr⟩
theorem qr0{f:FuncId}{g:List Value}{σ σ1 τ:St}{ds:List D}{R:D→St→Prop}{K:Ctx}{p:Addr→Prop}{a:Act}{w:World}(hi:Inv K p σ w)(h:σ.Perm (σ1++τ))(j:Spec P f ds σ1 R)(l:zB p w ds g)(b:(execOp a.eval o).run P w= .ok (.enter f g.toArray) w):
 o.wp P a w (fun m w'=>∃v d σ' c,m=a.put o.dst v∧(∃σ1',R d σ1'∧σ'=σ1'++τ)∧Rep c w' d v∧Inv K c σ' w'∧zE p w c w') (fun _ _ _=>False):=by
 unfold Oper.wp;rw[b];refine(j w p g ((hi.perm h).enter) l).mono fun e w' hl=>?_;obtain⟨v,rfl,n,d,σ',c,q,r,t,u,x⟩:=qrL (a:=a) (dst:=o.dst) hi h hl;exact⟨n,d,σ',c,q,r,t,u,x⟩
theorem qee{f:FuncId}{args:Array Operand}{b:Array TypeId}{σ σ1:St}(τ:St){ds:List D}{R:D→St→Prop}(c:o.op= .call {callee:=.value (.func f),args:=args,argTypes:=b})(e:callee P f)(g:yZ ρ args.toList ds)(j:σ.Perm (σ1++τ))(l:Spec P f ds σ1 R):zp P o ρ σ fun d σ'=>∃σ1',R d σ1'∧σ'=σ1'++τ:=fun K p a w hi h=>by
 have m:=g.rep (p:=p) (w:=w) (a:=a) fun x n=>h x (by rw[c];simp only[Op.operands,Call.operands];exact vI.2 (.inr (by simpa using n)));refine qr0 hi j l m ?_;unfold execOp;rw[c];simp only[resolve,Act.eval,Deferred.ofValue,Sem.run_bind,Sem.run_pure,Result.andThen_ok,invoke];rw[qdn e];congr 2
 apply jY.1;simp
theorem qcw{f:FuncId}{args:Array Operand}{b:Array TypeId}{ds:List D}(c:o.op= .call {callee:=.value (.func f),args:=args,argTypes:=b})(e:callee P f)(g:yZ ρ args.toList ds)(j:zf P f ds d):zi P o ρ d:=fun σ K p a w hi h=>by
 have:=qee (P:=P) (σ:=σ) (σ1:=[]) σ c e g (List.Perm.refl _) j K p a w hi h;refine Oper.wp_mono (fun u w' l=>?_) this;obtain⟨v,d',σ',m,n,⟨σ1',rfl,rfl⟩,q,r,t⟩:=l;exact⟨v,_,_,m,n,⟨rfl,rfl⟩,q,(r.perm vH).less,t⟩
theorem qok{f:FuncId}{x:Operand}{args:Array Operand}{e:Array TypeId}{σ σ1:St}(τ:St){ds l cs all:List D}{R:D→St→Prop}(g:o.op= .call {callee:=.value x,args:=args,argTypes:=e})(m:ρ x=some (.clo (.func f) l cs))(n:callee P f)(q:yZ ρ args.toList ds)(b:l++ds++cs=all)(r:σ.Perm (σ1++τ))(t:Spec P f all σ1 R):zp P o ρ σ fun d σ'=>∃σ1',R d σ1'∧σ'=σ1'++τ:=fun K p a w hi h=>by
 have u:=q.rep (p:=p) (w:=w) (a:=a) fun y hy=>h y (by rw[g];simp only[Op.operands,Call.operands];exact vI.2 (.inr (by simpa using hy)));have c:=h x (by rw[g];simp[Op.operands,Call.operands]) _ m;simp only[Rep]at c;obtain⟨v,z,c,A,B⟩:=c;have j:zB p w all (v++args.toList.map a.eval++z):=by rw[←b];exact(A.app u).app B
 refine qr0 hi r t j ?_;unfold execOp;rw[g];simp only[resolve,c,Deferred.ofValue,Sem.run_bind,Sem.run_pure,Result.andThen_ok,invoke];rw[qdn n];congr 2
 apply jY.1;simp
theorem qiQ{f:FuncId}{x:Operand}{args:Array Operand}{c:Array TypeId}{ds e cs all:List D}(g:o.op= .call {callee:=.value x,args:=args,argTypes:=c})(j:ρ x=some (.clo (.func f) e cs))(l:callee P f)(m:yZ ρ args.toList ds)(b:e++ds++cs=all)(n:zf P f all d):zi P o ρ d:=fun σ K p a w hi h=>by
 have:=qok (P:=P) (σ:=σ) (σ1:=[]) σ g j l m b (List.Perm.refl _) n K p a w hi h;refine Oper.wp_mono (fun B w' q=>?_) this;obtain⟨v,d',σ',r,t,⟨σ1',rfl,rfl⟩,u,z,A⟩:=q;exact⟨v,_,_,r,t,⟨rfl,rfl⟩,u,(z.perm vH).less,A⟩
end
section
variable{P:Program}{o:Oper}{ρ:Operand→Option D}{d:D}
def zai:D→List Nat→Option D
 |d,[]=>some d
 |.agg l,f::a=>match l[f]? with
  |some e=>zai e a
  |none=>none
 |_,_=>none
def yT:D→List Nat→Nat
 |_,[]=>0
 |.agg l,f::a=>szs (l.take f)+(match l[f]? with|some e=>yT e a|none=>0)
 |_,_=>0
def zaF:D→List Nat→D→D
 |_,[],x=>x
 |.agg l,f::a,x=>match l[f]? with
  |some e=>.agg (l.set f (zaF e a x))
  |none=>.agg l
 |d,_,_=>d
theorem qjR{p:Addr→Prop}{w:World}:∀{path:List Nat}{d0 d:D}{v0:Value},Rep p w d0 v0→zai d0 path=some d→∃v,Rep p w d v∧∀j u,v.cells.toList[j]? =some u→v0.cells.toList[yT d0 path+j]? =some u
 |[],d0,d,v0,h,hs=>by
  simp only[zai,Option.some.injEq]at hs;subst hs;exact⟨v0,h,fun j u hu=>by simpa[yT]using hu⟩
 |f::n,d0,d,v0,h,hs=>by
  cases d0<;>simp only[zai,reduceCtorEq]at hs
  rename_i l
  cases hl:l[f]? with
  |none=>simp[hl]at hs
  |some e=>
   simp only[hl]at hs;simp only[Rep]at h;obtain⟨cs,rfl,c,q⟩:=h;obtain⟨v1,a,b⟩:=c.at_cell hl;obtain⟨v,g,m⟩:=qjR a hs;refine⟨v,g,fun j u hu=>?_⟩;have:=b _ u (m j u hu);simp only[yT,hl,Value.cells,jS];exact this
theorem qnP:∀(l:List D)(f:Nat)(e:D),l[f]? =some e→szs (l.take f)+sz e≤szs l
 |[],_,_,h=>by simp at h
 |x::l,0,e,h=>by simp at h;subst h;simp[szs]
 |x::l,f+1,e,h=>by simp at h;have:=qnP l f e h;simp[szs];omega
theorem qna{p:Addr→Prop}{w:World}:∀{path:List Nat}{d0 d d':D}{v0 v:Value},Rep p w d0 v0→zai d0 path=some d→sz d'=sz d→Rep p w d' v→(d'.plain=true)→d0.plain=true→
 ∃j,Rep p w (zaF d0 path d') j∧(zaF d0 path d').plain=true∧j.cells.toList=v0.cells.toList.take (yT d0 path)++v.cells.toList++v0.cells.toList.drop (yT d0 path+sz d')∧yT d0 path+sz d'≤sz d0∧sz (zaF d0 path d')=sz d0
 |[],d0,d,d',v0,v,h,hs,m,t,x,z=>by
  simp only[zai,Option.some.injEq]at hs;subst hs;refine⟨v,by simpa only[zaF]using t,by simpa only[zaF]using x,?_,by simp[yT,m],by simpa only[zaF]using m⟩;have:=Rep.sz h;have hl:v0.cells.toList.length=sz d':=by rw[m];simpa using this
  simp only[yT,vY,jq,jc];rw[List.drop_of_length_le oa];simp
 |f::g,d0,d,d',v0,v,h,hs,m,t,x,z=>by
  cases d0<;>simp only[zai,reduceCtorEq]at hs
  rename_i l
  cases hl:l[f]? with
  |none=>simp[hl]at hs
  |some e=>
   simp only[hl]at hs;simp only[Rep]at h;obtain⟨cs,rfl,F,r⟩:=h;obtain⟨v1,b,a,c⟩:=F.at_ hl;have C:e.plain=true:=by
    cases e<;>first|rfl|skip
    simp only[Rep]at b;obtain⟨I,rfl,_⟩:=b;have:=r (.tuple I.toArray) (by rw[a];simp[Value.cells]);cases this;simp only[Rep]at b;subst b;have:=r Go.undef (by rw[a];simp[Value.cells,Go.undef]);cases this
   obtain⟨j,G,J,K,N,E⟩:=qna b hs m t x C;have n:=zj.set F hl E G;have H:v1.cells.toList.length=sz e:=by simpa using Rep.sz b
   have key:cs.take (szs (l.take f))++j.cells.toList++cs.drop (szs (l.take f)+sz e)=cs.take (yT (.agg l) (f::g))++v.cells.toList++cs.drop (yT (.agg l) (f::g)+sz d'):=by
    simp only[yT,hl];generalize O:cs.take (szs (l.take f))=A at a c⊢;generalize Q:cs.drop (szs (l.take f)+sz e)=B at a⊢;rw[K];have q:A.length=szs (l.take f):=c;have L:cs.take (szs (l.take f)+yT e g)=A++v1.cells.toList.take (yT e g):=by
     rw[a,←q,jo,v7,Jn oa]
    have M:cs.drop (szs (l.take f)+yT e g+sz d')=v1.cells.toList.drop (yT e g+sz d')++B:=by
     rw[a,←q,jo,jS,Ja,JE oa]
    rw[L,M];simp only[jo]
   refine⟨.agg (cs.take (szs (l.take f))++j.cells.toList++cs.drop (szs (l.take f)+sz e)).toArray,?_,?_,?_,?_,?_⟩;simp only[zaF,hl,Rep];refine⟨_,rfl,?_,fun u hu=>?_⟩;rw[←E];exact n;rcases jl.1 hu with hu|hu
   rcases jl.1 hu with hu|hu
   exact r u (j9 hu);exact Rep.one G J u hu;exact r u (vy hu);simp only[zaF,hl];rfl;exact key;have:=qnP l f e hl;simp only[yT,hl,sz];omega;simp only[zaF,hl,sz];exact qvF l f e _ hl E
theorem qw6{t:TypeId}{x:Operand}{n b off:Nat}{path:List Nat}{σ:St}{d0:D}(e:o.op= .load t x)(l:ρ x=some (.ref b off path))(m: .cell b d0∈σ)(hs:zai d0 path=some d)(c:yT d0 path=off)(q:Ty P t d.isAgg n)(hn:sz d=n):zp P o ρ σ fun d' σ'=>d'=d∧σ'=σ:=fun K p a w hi h=>by
 have f:=h x (by rw[e];simp[Op.operands]) _ l;simp only[Rep]at f;obtain⟨v0,ty,r,A,u,B⟩:=hi.ok _ m;obtain⟨v,g,z⟩:=qjR r hs;have hl:=qfT (P:=P) (b:=b) (o:=off) q hn g (fun j y hy=>by
  rw[cell_of_row _ _ _ _ _ _ u,←c];simpa using z j y hy)
 have hr:(execOp a.eval o).run P w= .ok (.value v) w:=by
  unfold execOp;rw[e];simp[f,Instr.loadAt,Instr.sureAddr,hl]
 unfold Oper.wp;rw[hr];exact⟨v,d,σ,p,rfl,⟨rfl,rfl⟩,g,hi,zE.refl p w⟩
theorem qAU{t:TypeId}{x y:Operand}{n b off:Nat}{path:List Nat}{σ τ:St}{d0 j e:D}(A:o.op= .store t x y)(M:ρ x=some (.ref b off path))(hy:ρ y=some e)(hw:Wk e d)(N:σ.Perm (.cell b d0::τ))(hs:zai d0 path=some j)(m:yT d0 path=off)(O:(P.info? t).map (·.size)=some n)(hn:sz d=n)(B:sz j=n)(H:d.plain=true):zp P o ρ σ fun _ σ'=>σ'= .cell b (zaF d0 path d)::τ:=fun K p a w hi h=>by
 have I:=h x (by rw[A];simp[Op.operands]) _ M;simp only[Rep]at I;have C:=hw _ _ _ (h y (by rw[A];simp[Op.operands]) _ hy);have q:=hi.perm N;obtain⟨v0,ty,J,Q,E,L⟩:=q.ok _ (je ..);obtain⟨i,F,G⟩:=jC.1 O;have l:(a.eval y).cells.size=n:=by rw[Rep.sz C,hn]
 have R:b<w.heap.size:=(jL.1 E).1;obtain⟨r,S,U,V,X,Y⟩:=qna J hs (by rw[hn,B]) C H Q;have v:=run_storeCells_at (P:=P) b off ty (a.eval y).cells.toList 0 v0.cells w E (by
  have:=Rep.sz J;simp only[j8,l,vh];omega) (Rep.one C H)
 have z:(v0.cells.toList.take (off+0)++(a.eval y).cells.toList++v0.cells.toList.drop (off+0+(a.eval y).cells.toList.length)).toArray=r.cells:=by
  apply jY.1;simp only[vh,j8,l,←hn];rw[V,m]
 rw[z]at v;have hr:(execOp a.eval o).run P w= .ok .skip (w.setRow b r.cells):=by
  unfold execOp;rw[A];simp[I,Instr.storeAt,Instr.sureAddr,storeVar,sizeOf,typeInfo,F,l,G,v]
 have c:∀f,p f→(w.setRow b r.cells).cell? f=w.cell? f:=fun f g=>qdy (setRow_other w b _ _ (L f g));have gr:zE p w p (w.setRow b r.cells):=fun f g=>⟨g,c f g⟩
 unfold Oper.wp;rw[hr];refine⟨Go.undef,.undef,_,p,rfl,rfl,by simp only[Rep],?_,gr⟩;refine q.write (b:=b) rfl rfl gr (fun f g=>.inl g) ⟨r,ty,S.grow gr,U,setRow_heap w b _ _ _ _ E,L⟩ (fun f g=>?_) rfl rfl rfl og fun k W=>setRow_other w b k _ W;obtain⟨u,hu⟩:=hi.pub f g;exact⟨u,by rw[c f g];exact hu⟩
def yv(P:Program)(e:TypeId)(z:D):Prop:=zok z=true∧∃v,(P.info? e).map (·.zero)=some (some v)∧v.cells.toList=zc z
theorem qv0{z:D}(h:zok z=true):z.plain=true:=by cases z<;>first|rfl|(simp[zok]at h)
theorem yv.rep{e:TypeId}{z:D}(h:yv P e z)(p:Addr→Prop)(w:World):∃v a,(P.info? e).map (·.zero)=some (some v)∧Rep p w z a∧a.cells=v.cells∧z.plain=true:=by
 obtain⟨b,v,c,f⟩:=h;obtain⟨a,g,j,_⟩:=qzn p w z b;exact⟨v,a,c,g,jY.1 (by rw[j,f]),qv0 b⟩
theorem qd2{e:TypeId}{z:D}{σ:St}(g:o.op= .alloc e)(j:yv P e z):zp P o ρ σ fun d' σ'=>∃b,d'= .ref b 0 []∧σ'= .cell b z::σ:=fun K p a w hi h=>by
 obtain⟨v,l,m,n,q,r⟩:=j.rep p w;obtain⟨i,c,f⟩:=jC.1 m;have hr:(execOp a.eval o).run P w= .ok (.value (.pointer (some ⟨w.heap.size,0,none⟩))) (w.alloc (.cells v.cells e)):=by
  unfold execOp;rw[g];simp[Instr.alloc,zeroValue,typeInfo,c,f,newVar,newRow]
 unfold Oper.wp;rw[hr];refine⟨_,.ref w.heap.size 0 [],_,p,rfl,⟨w.heap.size,rfl,rfl⟩,by simp only[Rep],?_,qaw hi.pub _⟩;refine(hi.alloc _).more ⟨l,e,n.grow (qaw hi.pub _),r,by rw[q];exact heap_alloc_new w _,fun t x hb=>?_⟩ fun b hb=>?_;obtain⟨u,hu⟩:=hi.pub t x;have:=qfs hu;omega;simp only[Ob.blk,Option.some.injEq]at hb;subst hb;exact⟨.inl hi.size,fun hm=>by have:=hi.lt hm;omega⟩
theorem qk2{e:TypeId}{x:Operand}{σ:St}(c:o.op= .box e x)(f:ρ x=some d)(g:d.plain=true):zp P o ρ σ fun d' σ'=>∃b,d'= .ref b 0 []∧σ'= .cell b d::σ:=fun K p a w hi h=>by
 have j:=h x (by rw[c];simp[Op.operands]) d f;have hr:(execOp a.eval o).run P w= .ok (.value (.pointer (some ⟨w.heap.size,0,none⟩))) (w.alloc (.cells (a.eval x).cells e)):=by
  unfold execOp;rw[c];simp[Instr.box,newVar,newRow]
 unfold Oper.wp;rw[hr];refine⟨_,.ref w.heap.size 0 [],_,p,rfl,⟨w.heap.size,rfl,rfl⟩,by simp only[Rep],?_,qaw hi.pub _⟩;refine(hi.alloc _).more ⟨a.eval x,e,j.grow (qaw hi.pub _),g,heap_alloc_new w _,fun l m hb=>?_⟩ fun b hb=>?_;obtain⟨u,hu⟩:=hi.pub l m;have:=qfs hu;omega;simp only[Ob.blk,Option.some.injEq]at hb;subst hb;exact⟨.inl hi.size,fun hm=>by have:=hi.lt hm;omega⟩
theorem qfL{m:Md}{f:FuncId}{fn:Func}{K:Ctx}{R:D→St→Prop}{k:List Item}{env:Env}{σ τ:St}(s b:Nat)(hs:lk env s=some (.ref b 0 []))(E:σ.Perm (.cell b d::τ))(h:ze m P f fn K R k ((s,.ptr d)::env) τ):ze m P f fn K R k env σ:=fun p a w hi hr hn hd=>by
 have g:=hi.perm E;obtain⟨v0,ty,z,F,A,M⟩:=g.ok _ (je ..);have G:b<w.heap.size:=(jL.1 A).1;have hm:=g.mine b (qd0.2 ⟨_,je ..,rfl⟩);have n:=g.nd;have x:b∉yl τ:=by
  simp only[yl,vt,Ob.blk,vd]at n;exact n.1
 have c:∀j u,v0.cells.toList[j]? =some u→w.cell? ⟨b,0+j,none⟩=some u:=fun j u hu=>by
  rw[jc,cell_of_row _ _ _ _ _ _ A];simpa using hu
 have H:=g.tail.give (fun q=>q.block=b∧q.spot=none∧q.off<v0.cells.size) fun q⟨B,C,I⟩=>by
  obtain⟨J,of,sp⟩:=q;simp only at B C I;subst B C;refine⟨⟨v0.cells[of],?_⟩,hm,fun o' L J hb r=>?_⟩;have:=c of v0.cells[of] og;simpa using this;simp only at r;subst r;exact absurd (qd0.2 ⟨o',L,hb⟩) x
 refine h _ a w H ?_ hn hd;intro t e l;rw[qa5]at l;by_cases v:s=t;subst v;rw[if_pos rfl]at l;injection l with l
 subst l;have:=hr s _ hs;simp only[Rep]at this⊢;rw[this];refine⟨b,0,v0,rfl,.inr ⟨b,0,rfl,fun j u hu=>⟨.inr ⟨rfl,rfl,?_⟩,c j u hu⟩⟩,z.grow (qfd p _ w),Rep.one z F⟩;have:=(jd.1 hu).1;simp at this⊢;omega;rw[if_neg v]at l;exact(hr t e l).grow (qfd p _ w)
end
section
variable{P:Program}{o:Oper}{ρ:Operand→Option D}{d:D}
theorem RdP.rd{p:Addr→Prop}{w:World}{A:Option Addr}{xs:List Value}(h:RdP p w A xs):Rd w A xs:=by
 rcases h with h|⟨b,o,a,c⟩
 exact .inl h;exact .inr ⟨_,a,fun j u hu=>by rw[zan];exact(c j u hu).2⟩
def elB(P:Program)(e:TypeId)(s by_:Nat):Bool:=match P.info? e with
 |some i=>(match i.zero with
  |some z=>z.cells.size==s&&i.size==s&&i.bytes==by_
  |none=>false)
 |none=>false
def ElT(P:Program)(t e:TypeId)(s by_:Nat):Prop:=P.underlying t=some (.slice e)∧(∃z,(P.info? e).map (fun i=>(i.zero,i.size,i.bytes))=some (some z,s,by_)∧z.cells.size=s)∧0<s
theorem ElT.of{t e:TypeId}{s by_:Nat}(b:P.underlying t=some (.slice e))(a:elB P e s by_=true)(c:0<s):ElT P t e s by_:=by
 refine⟨b,?_,c⟩;unfold elB at a;split at a
 rename_i i hi
 split at a
 rename_i z f
 simp only[jk,beq_iff_eq]at a;exact⟨z,by simp[hi,f,a.1.2,a.2],a.1.1⟩;cases a;cases a
theorem ElT.size{t e:TypeId}{s by_:Nat}(h:ElT P t e s by_):(P.info? e).map (·.size)=some s:=by
 obtain⟨_,⟨z,a,_⟩,_⟩:=h;obtain⟨i,b,_,c,_⟩:=info_parts a;simp[b,c]
theorem ElT.zs{t e:TypeId}{s by_:Nat}(h:ElT P t e s by_):∃z,(P.info? e).map (fun i=>(i.zero,i.size))=some (some z,s):=by
 obtain⟨_,⟨z,a,_⟩,_⟩:=h;obtain⟨i,b,c,f,_⟩:=info_parts a;exact⟨z,by simp[b,c,f]⟩
theorem qqa{K:Ctx}{p:Addr→Prop}{σ:St}{w:World}{cur:Array Value}{e:TypeId}{s n cap:Nat}{l:List D}{xs:List Value}(hi:Inv K p σ w)(hs:cur.size=cap*s)(m:cur.toList.take (n*s)=xs)(hr:zj p w l xs)(B:∀u∈xs,u.oneCell'=true)(hl:l.length=n)(hn:n≤cap)(t:cap≤maxLen):
 ∃q,Rep q (w.alloc (.cells cur e)) (.own (.slice (some ⟨w.heap.size,0,none⟩) n cap) l) (.slice (some ⟨w.heap.size,0,none⟩) n cap)∧Inv K q (.row (.slice (some ⟨w.heap.size,0,none⟩) n cap) n e s::σ) (w.alloc (.cells cur e))∧zE p w q (w.alloc (.cells cur e)):=by
 have hlen:n*s≤cap*s:=jH s hn;have c:∀j,(w.alloc (.cells cur e)).cell? ⟨w.heap.size,j,none⟩=cur[j]? :=fun j=>cell_of_row _ _ _ _ _ _ (heap_alloc_new w _);have C:=qaw hi.pub (.cells cur e);have E:=(hi.alloc (.cells cur e)).give (fun a=>a.block=w.heap.size∧a.spot=none∧a.off<n*s) fun a⟨x,z,F⟩=>by
  obtain⟨b,of,sp⟩:=a;simp only at x z F;subst x z;have hlt:of<cur.size:=by omega
  refine⟨⟨cur[of],by rw[c];simp[hlt]⟩,.inl hi.size,fun o' G b hb f=>?_⟩;have:=(hi.ok o' G).lt hb;simp only at f;omega
 have gr:=C.tr (qfd p (fun a=>a.block=w.heap.size∧a.spot=none∧a.off<n*s) (w.alloc (.cells cur e)));refine⟨_,?_,E.more ⟨⟨xs,?_,.inr ⟨w.heap.size,cap,cur,rfl,ju _,heap_alloc_new w _,hn,t,hs,m⟩⟩,?_⟩ ?_,gr⟩
 · simp only[Rep]
   refine⟨trivial,_,cap,xs,by rw[hl],by omega,by unfold maxLen at t;omega,.inr ⟨w.heap.size,0,rfl,fun j u hu=>?_⟩,hr.grow gr,B⟩;have A:=(jd.1 hu).1;rw[←m]at hu A;rw[jA]at A;rw[jZ,if_pos oa]at hu;refine⟨.inr ⟨rfl,rfl,by simp only;omega⟩,?_⟩;rw[jc,c];simpa using hu
 · rw[←m,jA];simp;omega
 · intro g r a h f
   simp only[Value.ownBlock,Option.some.injEq]at r;rcases h with h|⟨_,_,h⟩
   · obtain⟨v,H⟩:=hi.pub a h
     have:=qfs H;omega
   · exact h
 · intro b hb
   simp only[Ob.blk,Value.ownBlock,Option.some.injEq]at hb;have hb:w.heap.size=b:=hb;subst hb;exact⟨.inl hi.size,fun hm=>by have:=hi.lt hm;omega⟩
theorem qy0{p:Addr→Prop}{w:World}{u v:Value}{l:List D}{e:TypeId}{s n:Nat}(t:Rep p w (.own u l) v)(C:zbb p w (.row u n e s))(hn:n=l.length)(h:zx s l):v=u∧((u= .slice none 0 0∧l=[])∨∃g cap cur xs,u= .slice (some ⟨g,0,none⟩) l.length cap∧w.heap[g]? =some (.cells cur e (0,0))∧l.length≤cap∧cap≤maxLen∧cur.size=cap*s∧cur.toList.take (l.length*s)=xs∧zj p w l xs∧(∀x∈xs,x.oneCell'=true)∧xs.length=l.length*s∧∀a,p a→a.block=g→a.off<l.length*s):=by
 subst hn;simp only[Rep]at t;obtain⟨rfl,A,c,xs,E,O,Q,m,r,F⟩:=t;refine⟨rfl,?_⟩;obtain⟨⟨G,R,f⟩,H⟩:=C;rcases f with⟨f,q⟩|⟨g,cap,cur,f,_,q,z,I,J,S⟩
 exact .inl ⟨f,jG q⟩;refine .inr ⟨g,cap,cur,xs,f,q,z,I,J,?_,r,F,by rw[r.len,h.szs],fun a K hb=>H g (by rw[f];rfl) a K hb⟩;have hlen:xs.length=l.length*s:=by rw[r.len,h.szs]
 have hle:l.length*s≤cap*s:=jH s z;rcases m with m|⟨b,o',m,L⟩
 subst m;have:l.length*s=0:=by simpa using hlen.symm
 rw[this];rfl;rw[E,m]at f;injection f with f
 injection f with f
 injection f with M N
 subst M N;apply List.ext_getElem?;intro j;rw[jZ];split
 rename_i U
 have B:=jj (l:=xs) (i:=j) oa;have:=(L j _ B).2;rw[jc,cell_of_row _ _ _ _ _ _ q]at this;rw[B];simpa using this;rw[JF oa]
theorem qx9{x y:Operand}{t e:TypeId}{s by_:Nat}{σ τ:St}{u:Value}{l m:List D}{dy:D}(ho:o.op= .call {callee:=.builtin .append,args:=#[x,y],argTypes:=#[t,t]})(hE:ElT P t e s by_)(hx:ρ x=some (.own u l))(hy:ρ y=some dy)(hm:AsL dy m)(hσ:σ.Perm (.row u l.length e s::τ))(hl:zx s l)(hml:zx s m)(hb:(l.length+m.length)*by_≤140737488355328)(h63:l.length+m.length≤9223372036854775807):
 zp P o ρ σ fun d' σ'=>∃S,d'= .own S (l++m)∧σ'= .row S (l++m).length e s::τ:=fun K p a w hi h=>by
 rw[ja];obtain⟨hu,⟨z,hz,hzs⟩,hs0⟩:=hE;obtain⟨i,N,hz',Z,hby⟩:=info_parts hz;have U:=hi.perm hσ;have hxv:=h x (by rw[ho];simp[Op.operands,Call.operands]) _ hx;obtain⟨A,c,ys,g1,g2,g3,g4,g5,g6⟩:=hm.rep (h y (by rw[ho];simp[Op.operands,Call.operands]) _ hy);obtain⟨hvu,O⟩:=qy0 hxv (U.ok _ (je ..)) rfl hl;have B:ys.length=m.length*s:=by rw[g5.len,hml.szs]
 have G:∀r,(Builtin.append_ #[t,t] o.type #[u,.slice A m.length c]).run P w=r→(execOp a.eval o).run P w=r.andThen fun v w'=>.ok (.value v) w':=fun r hr=>by
  subst hr;unfold execOp;simp only[ho,resolve,invoke,builtin,Sem.run_bind,Sem.run_pure,Result.andThen_ok,vF,jm,jU,hvu,g1]
 have hmx:maxLen=9223372036854775807:=rfl
 -- where nothing is appended
 by_cases hm0:m.length=0
 · have hm0':m=[]:=jG hm0
   subst hm0';have V:ys=[]:=jG (by simpa using B);have hr:(Builtin.append_ #[t,t] o.type #[u,.slice A 0 c]).run P w= .ok u w:=by
    rcases O with⟨rfl,rfl⟩|⟨g,cap,cur,xs,rfl,k1,k2,_⟩
    cases A<;>simp[Builtin.append_,run_underlying hu,sizeOf,typeInfo,N,Builtin.lenOf,Builtin.firstCells,loadCells,loadCellsFrom]
    cases A<;>simp[Builtin.append_,run_underlying hu,sizeOf,typeInfo,N,Builtin.lenOf,Builtin.firstCells,loadCells,loadCellsFrom,k2,storeCells]
   unfold Oper.wp;rw[G _ hr];refine⟨u,.own u (l++[]),_,p,rfl,⟨u,rfl,rfl⟩,?_,by simpa using U,zE.refl p w⟩;rw[jv];rw[hvu]at hxv;exact hxv
 -- the cells that are appended
 · have V:ys≠[]:=fun V=>by
    rw[V]at B;have:=j6 (vU hm0) hs0;simp at B;omega
   rcases g4 with g4|⟨b,o',rfl,hcell⟩
   · exact absurd g4 V
   have J:∀j v,ys[j]? =some v→w.cell? ((⟨b,o',none⟩:Addr).add j)=some v:=fun j v L=>by rw[zan];exact(hcell j v L).2
   subst Z;subst hby;have grown:∀(xs:List Value)(C:Nat),zj p w l xs→(∀x∈xs,x.oneCell'=true)→xs.length=l.length*i.size→C<l.length+m.length→
    ∃W S,S= .slice (some ⟨w.heap.size,0,none⟩) (l.length+m.length) (grownCap w (l.length+m.length) C e)∧Rep W (w.drew.alloc (.cells (xs.toArray++ys.toArray++Builtin.zeroCells z.cells (grownCap w (l.length+m.length) C e-(l.length+m.length))) e)) (.own S (l++m)) S∧Inv K W (.row S (l.length+m.length) e i.size::τ) (w.drew.alloc (.cells (xs.toArray++ys.toArray++Builtin.zeroCells z.cells (grownCap w (l.length+m.length) C e-(l.length+m.length))) e))∧
     zE p w W (w.drew.alloc (.cells (xs.toArray++ys.toArray++Builtin.zeroCells z.cells (grownCap w (l.length+m.length) C e-(l.length+m.length))) e)):=fun xs C hr1 hr2 hr3 hold=>by
    have hge:=grownCap_ge w (l.length+m.length) C e;have hcm:grownCap w (l.length+m.length) C e≤maxLen:=grownCap_le_maxLen w (l.length+m.length) C e (by unfold maxLen;omega);have hlen:(xs++ys).length=(l.length+m.length)*i.size:=by rw[ja,hr3,B,jE]
    obtain⟨W,q1,q2,q3⟩:=qqa (K:=K) (p:=p) (σ:=τ) (w:=w.drew) (cur:=xs.toArray++ys.toArray++Builtin.zeroCells z.cells (grownCap w (l.length+m.length) C e-(l.length+m.length))) (e:=e) (s:=i.size) (n:=l.length+m.length) (cap:=grownCap w (l.length+m.length) C e) (l:=l++m) (xs:=xs++ys) U.tail.drew (by
     simp only[Jc,jV,size_zeroCells,hzs,hr3,B,←jE];congr 1
     omega) (by
     simp only[Jd,jo];rw[←jo,←hlen];exact vK) ((hr1.app g5).grow (qdu p w)) (fun x hx=>(jl.1 hx).elim (hr2 x) (g6 x)) og hge hcm
    exact⟨W,_,rfl,q1,q2,q3⟩
   have hmpos:0<m.length:=vU hm0;rcases O with⟨rfl,rfl⟩|⟨g,cap,cur,xs,rfl,k1,k2,k3,k4,k5,k6,k7,k8,k9⟩
   · have hr:=run_append_nil (P:=P) w t o.type e i z hu N hz' ⟨b,o',none⟩ m.length c ys B J oa oa (by have hb:=hb;simp only[ji,jc]at hb;omega)
     obtain⟨W,S,X,q1,q2,q3⟩:=grown [] 0 (zj.nil _ _) og og oe;simp only[ji,jc,Array.empty_append,jq]at hr q1 q2 q3 X⊢;unfold Oper.wp;rw[G _ hr];subst X;exact⟨_,_,_,W,rfl,⟨_,rfl,rfl⟩,q1,q2,q3⟩
   · by_cases E:l.length+m.length≤cap
     · have hfit:l.length*i.size+ys.length≤cur.size:=by rw[B,k4,←jE];exact jH _ E
       have hr:=run_append_room (P:=P) w t o.type e i hu N g l.length cap cur k1 ⟨b,o',none⟩ m.length c ys B J g6 E hfit;unfold Oper.wp;rw[G _ hr];generalize Q:(cur.toList.take (l.length*i.size)++ys++cur.toList.drop (l.length*i.size+ys.length))=new;have hgl:g<w.heap.size:=(jL.1 k1).1;have hh:=setRow_heap w g cur new.toArray e (0,0) k1;have H:∀j,(w.setRow g new.toArray).cell? ⟨g,j,none⟩=new[j]? :=fun j=>by rw[cell_of_row _ _ _ _ _ _ hh];simp
       have htl:(cur.toList.take (l.length*i.size)).length=l.length*i.size:=by rw[k5,k8]
       have hold:∀j,j<l.length*i.size→new[j]? =cur[j]? :=fun j hj=>by
        rw[←Q,jo,j3 oa,jZ,if_pos hj];simp
       have R:new.take ((l.length+m.length)*i.size)=xs++ys:=by
        rw[←Q,k5];have:(xs++ys).length=(l.length+m.length)*i.size:=by rw[ja,k8,B,jE]
        rw[←this];exact vK
       have hspot:∀f,p f→f.block=g→f=⟨g,f.off,none⟩:=fun f F I=>by
        obtain⟨v,L⟩:=hi.pub f F;obtain⟨b',o'',s'⟩:=f;simp only at I;subst I;unfold World.cell? at L;simp only[k1]at L;cases s' with
        |none=>rfl
        |some q=>simp at L
       have M:∀f,p f→(w.setRow g new.toArray).cell? f=w.cell? f:=fun f F=>by
        by_cases I:f.block=g
        · have hlt:=k9 f F I
          rw[hspot f F I,H,hold _ hlt,cell_of_row _ _ _ _ _ _ k1]
        · exact qdy (setRow_other w g _ _ I)
       have gr:zE p w (fun f=>p f∨(f.block=g∧f.spot=none∧f.off<(l.length+m.length)*i.size)) (w.setRow g new.toArray):=fun f F=>⟨.inl F,M f F⟩
       have hle:(l.length+m.length)*i.size≤cap*i.size:=jH _ E;have hnl:new.length=cap*i.size:=by
        rw[←Q];simp only[ja,j4,htl,B,j8,k4];rw[jE]at hle;omega
       refine⟨.slice (some ⟨g,0,none⟩) (l.length+m.length) cap,.own (.slice (some ⟨g,0,none⟩) (l.length+m.length) cap) (l++m),_,_,rfl,⟨_,rfl,rfl⟩,?_,?_,gr⟩
       · simp only[Rep]
         refine⟨trivial,_,cap,xs++ys,by rw[ja],by rw[ja];exact E,by omega,.inr ⟨g,0,rfl,fun j v L=>?_⟩,(k6.app g5).grow gr,fun x hx=>(jl.1 hx).elim (k7 x) (g6 x)⟩;have hj:=(jd.1 L).1;rw[ja,k8,B,←jE]at hj;refine⟨.inr ⟨rfl,rfl,by simp only;omega⟩,?_⟩;rw[jc,H];rw[←R,jZ,if_pos hj]at L;exact L
       · refine U.write (b:=g) rfl rfl gr (fun f F=>F.elim .inl fun h=>.inr h.1) ⟨⟨xs++ys,?_,.inr ⟨g,cap,new.toArray,rfl,ju _,hh,E,k3,by simpa using hnl,by simpa using R⟩⟩,fun g' Y f F I=>?_⟩ (fun f F=>?_) rfl rfl rfl og fun k hk=>setRow_other w g k _ hk
         · rw[ja,k8,B,jE]
         · simp only[Value.ownBlock,Option.some.injEq]at Y
           have Y:g=g':=Y;subst Y;rcases F with F|⟨_,_,F⟩
           · have:=k9 f F I
             rw[jE];omega
           · exact F
         · rcases F with F|⟨e1,e2,e3⟩
           · obtain⟨v,L⟩:=hi.pub f F
             exact⟨v,by rw[M f F];exact L⟩
           · obtain⟨b',o'',s'⟩:=f
             simp only at e1 e2 e3;subst e1 e2;refine⟨new[o'']'(by omega),?_⟩;rw[H];exact jj _
     · have holds:∀j v,xs[j]? =some v→w.cell? ((⟨g,0,none⟩:Addr).add j)=some v:=fun j v L=>by
        rw[zan,jc,cell_of_row _ _ _ _ _ _ k1];have hj:=(jd.1 L).1;rw[←k5,jZ,if_pos oa]at L;simpa using L
       have hr:=run_append_grow (P:=P) w t o.type e i z hu N hz' ⟨g,0,none⟩ l.length cap xs k8 holds ⟨b,o',none⟩ m.length c ys B J oa oa (growslice_fits oa hb);obtain⟨W,S,X,q1,q2,q3⟩:=grown xs cap k6 k7 k8 oa;unfold Oper.wp;rw[G _ hr];subst X;exact⟨_,_,_,W,rfl,⟨_,rfl,rfl⟩,q1,q2,q3⟩
end
section
variable{P:Program}{o:Oper}{ρ:Operand→Option D}{d:D}
theorem qtP(e:TypeId)(s:Nat){σ:St}(c:(o.op= .assign (.const (.slice none 0 0))∨o.op= .move (.const (.slice none 0 0)))):zp P o ρ σ fun d' σ'=>∃u,d'= .own u []∧σ'= .row u 0 e s::σ:=fun K p a w hi h=>by
 have hr:(execOp a.eval o).run P w= .ok (.value (.slice none 0 0)) w:=by
  unfold execOp;rcases c with c|c<;>rw[c]<;>rfl
 unfold Oper.wp;rw[hr];refine⟨_,.own (.slice none 0 0) [],_,p,rfl,⟨_,rfl,rfl⟩,?_,hi.more ⟨⟨[],World.ownsRow_nil w 0 e s⟩,fun g f=>by simp[Value.ownBlock]at f⟩ (fun b hb=>by simp[Ob.blk,Value.ownBlock]at hb),zE.refl p w⟩;simp only[Rep];exact⟨trivial,none,0,[],rfl,by simp,by omega,.inl rfl,zj.nil _ _,by simp⟩
theorem qww{t e:TypeId}{x y:Operand}{s by_ c:Nat}{k v:IntKind}{n:Int}{σ:St}(g:o.op= .makeSlice t x y)(C:ElT P t e s by_)(E:ρ x=some (.int k 0))(hy:ρ y=some (.int v n))(hn:n=(c:Int))(hb:by_*c≤281474976710656)(N:c≤9223372036854775807):
 zp P o ρ σ fun d' σ'=>∃u,d'= .own u []∧σ'= .row u 0 e s::σ:=fun K p a w hi h=>by
 obtain⟨hu,⟨z,F,G⟩,H⟩:=C;obtain⟨i,j,m,b,q⟩:=info_parts F;have A:=h x (by rw[g];simp[Op.operands]) _ E;have B:=h y (by rw[g];simp[Op.operands]) _ hy;simp only[Rep]at A B;subst hn;have r:(i.bytes:Int)*(c:Int)≤281474976710656:=by
  have:((i.bytes*c:Nat):Int)≤281474976710656:=by rw[q];omega
  rwa [Jy]at this
 have hr:=run_make (P:=P) w t e i z hu j m k v 0 (c:Int) (vf _) oa r oa;simp only[Je,jO]at hr;have f:(execOp a.eval o).run P w= .ok (.value (.slice (some ⟨w.heap.size,0,none⟩) 0 c)) (w.alloc (.cells (madeCells z.cells (c*i.size)) e)):=by
  unfold execOp;rw[g];simp[A.1,B.1,hr]
 unfold Oper.wp;rw[f];obtain⟨I,J,L,M⟩:=qqa (K:=K) (p:=p) (σ:=σ) (w:=w) (cur:=madeCells z.cells (c*i.size)) (e:=e) (s:=s) (n:=0) (cap:=c) (l:=[]) (xs:=[]) hi (by rw[size_madeCells,b]) og (zj.nil _ _) og rfl (ju _) (by unfold maxLen;omega);exact⟨_,_,_,I,rfl,⟨_,rfl,rfl⟩,J,L,M⟩
theorem qwF{x y:Operand}{t e:TypeId}{s by_:Nat}{l m:List D}{dy:D}(W:o.op= .call {callee:=.builtin .append,args:=#[x,y],argTypes:=#[t,t]})(hE:ElT P t e s by_)(X:ρ x=some (.full l))(hy:ρ y=some dy)(hm:AsL dy m)(hl:zx s l)(Y:zx s m)(hb:(l.length+m.length)*by_≤140737488355328)(h63:l.length+m.length≤9223372036854775807):zi P o ρ (.lst (l++m)):=fun σ K p a w hi h=>by
 obtain⟨hu,⟨z,hz,hzs⟩,N⟩:=hE;obtain⟨i,G,O,H,Z⟩:=info_parts hz;have I:=h x (by rw[W];simp[Op.operands,Call.operands]) _ X;obtain⟨A,c,ys,g1,g2,g3,g4,g5,g6⟩:=hm.rep (h y (by rw[W];simp[Op.operands,Call.operands]) _ hy);have E:=I;simp only[Rep]at I;obtain⟨B,xs,k1,k2,M,k4,k5⟩:=I;have u:ys.length=m.length*s:=by rw[g5.len,Y.szs]
 have Q:xs.length=l.length*s:=by rw[k4.len,hl.szs]
 have g:∀r,(Builtin.append_ #[t,t] o.type #[.slice B l.length l.length,.slice A m.length c]).run P w=r→(execOp a.eval o).run P w=r.andThen fun v w'=>.ok (.value v) w':=fun r hr=>by
  subst hr;unfold execOp;simp only[W,resolve,invoke,builtin,Sem.run_bind,Sem.run_pure,Result.andThen_ok,vF,jm,jU,k1,g1]
 by_cases J:m.length=0;have R:m=[]:=jG J;subst R;have hr:(Builtin.append_ #[t,t] o.type #[.slice B l.length l.length,.slice A 0 c]).run P w= .ok (.slice B l.length l.length) w:=by
  cases A<;>cases B<;>simp[Builtin.append_,run_underlying hu,sizeOf,typeInfo,G,Builtin.lenOf,Builtin.firstCells,loadCells,loadCellsFrom,storeCells]
 unfold Oper.wp;rw[g _ hr];refine⟨_,.lst (l++[]),σ,p,rfl,⟨rfl,rfl⟩,?_,hi,zE.refl p w⟩;rw[jv];rw[k1]at E;exact Wk.full l _ _ _ E;have C:ys≠[]:=fun C=>by
  rw[C]at u;have:=j6 (vU J) N;simp at u;omega
 rcases g4 with g4|⟨b,o',rfl,L⟩
 exact absurd g4 C;have n:∀j v,ys[j]? =some v→w.cell? ((⟨b,o',none⟩:Addr).add j)=some v:=fun j v F=>by rw[zan];exact(L j v F).2
 have hmpos:0<m.length:=vU J;subst H;subst Z;have fin:∀f,f<l.length+m.length→(Builtin.append_ #[t,t] o.type #[.slice B l.length l.length,.slice (some ⟨b,o',none⟩) m.length c]).run P w= .ok (.slice (some ⟨w.heap.size,0,none⟩) (l.length+m.length) (grownCap w (l.length+m.length) f e)) (w.drew.alloc (.cells (xs.toArray++ys.toArray++Builtin.zeroCells z.cells (grownCap w (l.length+m.length) f e-(l.length+m.length))) e))→
  o.wp P a w (fun a' w'=>∃v d' σ' S,a'=a.put o.dst v∧(d'= .lst (l++m)∧σ'=σ)∧Rep S w' d' v∧Inv K S σ' w'∧zE p w S w') (fun _ _ _=>False):=fun f hold hr=>by
  obtain⟨S,q1,q2,V⟩:=hi.drew.fresh (xs.toArray++ys.toArray++Builtin.zeroCells z.cells (grownCap w (l.length+m.length) f e-(l.length+m.length))) e;unfold Oper.wp;rw[g _ hr];have gr:=(qdu p w).tr q2;refine⟨_,.lst (l++m),σ,S,rfl,⟨rfl,rfl⟩,?_,q1,gr⟩;simp only[Rep];have hcm:grownCap w (l.length+m.length) f e≤maxLen:=grownCap_le_maxLen w (l.length+m.length) f e (by unfold maxLen;omega);have hmx:maxLen=9223372036854775807:=rfl;refine⟨_,_,xs++ys,by rw[ja],by rw[ja];exact grownCap_ge w _ f e,by omega,?_,(k4.app g5).grow gr,fun x X=>(jl.1 X).elim (k5 x) (g6 x)⟩;rcases V with V|⟨b',U,q,e2⟩
  · exfalso
    simp only[Jd,List.append_eq_nil_iff]at V;exact C V.1.2
  · injection q with q
    injection q with q e3
    subst q e3;refine .inr ⟨w.heap.size,0,rfl,fun j v F=>e2 j v ?_⟩;have hj:=(jd.1 F).1;simp only[Jd];rw[j3 hj];exact F
 cases B with
 |none=>
  have hx0:xs=[]:=by
   rcases M with M|⟨b',U,q,_⟩
   exact M;cases q
  subst hx0;have hl0:l=[]:=by
   cases l with
   |nil=>rfl
   |cons x l=>
    have:=j6 (show 0<(x::l).length by simp) N;rw[←Q]at this;simp at this
  subst hl0;have hr:=run_append_nil (P:=P) w t o.type e i z hu G O ⟨b,o',none⟩ m.length c ys u n oa oa (by have hb:=hb;simp only[ji,jc]at hb;omega);have:=fin 0 oe;simp only[ji,jc,Array.empty_append]at this hr⊢;exact this hr
 |some ad=>
  have holds:∀j v,xs[j]? =some v→w.cell? (ad.add j)=some v:=fun j v F=>by
   rcases M with M|⟨b',U,q,e2⟩
   rw[M]at F;simp at F;injection q with q
   subst q;rw[zan];exact(e2 j v F).2
  exact fin l.length oa (run_append_grow (P:=P) w t o.type e i z hu G O ad l.length l.length xs Q holds ⟨b,o',none⟩ m.length c ys u n oa oa (growslice_fits oa hb))
end
section
variable{P:Program}{o:Oper}{ρ:Operand→Option D}{d:D}
theorem qx6{x:Operand}{t e:TypeId}{s by_:Nat}{a:D}{l:List D}(b:o.op= .call {callee:=.builtin .len,args:=#[x],argTypes:=#[t]})(c:ElT P t e s by_)(f:ρ x=some a)(hl:AsL a l):zi P o ρ (.int .i64 (l.length:Int)):=qDF b c.1 f hl
theorem qAJ{t e:TypeId}{x ix:Operand}{s by_:Nat}{f:D}{l:List D}{k:IntKind}{n:Int}(j:Nat)(g:o.op= .indexAddr t x ix)(b:ElT P t e s by_)(h:ρ x=some f)(hl:AsL f l)(c:ρ ix=some (.int k n))(hn:n=(j:Int))(hd:l[j]? =some d)(a:zx s l)(m:d.plain=true):zi P o ρ (.ptr d):=qz3 g b.1 b.size b.2.2 h hl c hn hd a m
theorem qAH{t e:TypeId}{n s by_:Nat}{parts:Array (Nat×Operand)}(xs:List Operand){ds:List D}(j:o.op= .buildSlice t n parts)(a:ElT P t e s by_)(b:parts.toList=(xs.zipIdx 0).map fun x=>(x.2,x.1))(hn:n=xs.length)(c:0<n)(f:n*s≤16777216)(l:yZ ρ xs ds)(g:zx s ds)(h:∀d∈ds,d.plain=true):zi P o ρ (.full ds):=
 let⟨_,m⟩:=a.zs
 qC3 j a.1 m a.2.2 b hn c f l g h
theorem qrU{t e:TypeId}{parts:Array (Nat×Operand)}{s by_:Nat}(c:o.op= .buildSlice t 0 parts)(b:ElT P t e s by_)(a:parts.toList=[]):zi P o ρ (.full []):=qB3 c b.1 b.size a
theorem qsS{t e:TypeId}{x:Operand}{low high:Option Operand}{s by_:Nat}{f:D}{l:List D}(lo hi:Nat)(h:o.op= .slice t x low high none)(g:ElT P t e s by_)(j:ρ x=some f)(hl:AsL f l)(m:za2 ρ low lo)(n:za1 ρ l.length high hi)(b:lo≤hi)(c:hi≤l.length)(a:zx s l):zi P o ρ (.lst ((l.take hi).drop lo)):=qC0 h g.1 g.size j hl m n b c a
theorem qCJ{t e:TypeId}{x y z:Operand}{s by_:Nat}{f:D}{l:List D}{k j:IntKind}{m g:Int}(hi:Nat)(n:o.op= .slice t x none (some y) (some z))(h:ElT P t e s by_)(p:ρ x=some f)(hl:AsL f l)(hy:ρ y=some (.int k m))(hm:m=(hi:Int))(q:ρ z=some (.int j g))(b:g=(hi:Int))(c:hi≤l.length)(a:zx s l):zi P o ρ (.full (l.take hi)):=qCf n h.1 h.size p hl hy hm q b c a
theorem qc3{t:TypeId}{x:Operand}{n b off:Nat}{path:List Nat}{σ:St}{d0:D}(c:o.op= .load t x)(e:ρ x=some (.ref b off path))(f: .cell b d0∈σ)(hs:zai d0 path=some d)(a:yT d0 path=off)(g:Ty P t d.isAgg n)(hn:sz d=n):zp P o ρ σ fun d' σ'=>d'=d∧σ'=σ:=qw6 c e f hs a g hn
theorem qnZ{t:TypeId}{x y:Operand}{n b off:Nat}{path:List Nat}{σ:St}(τ:St){d0 a e:D}{g:Bool}(h:o.op= .store t x y)(j:ρ x=some (.ref b off path))(hy:ρ y=some e)(hw:Wk e d)(l:σ.Perm (.cell b d0::τ))(hs:zai d0 path=some a)(c:yT d0 path=off)(m:Ty P t g n)(hn:sz d=n)(f:sz a=n)(p:d.plain=true):zp P o ρ σ fun _ σ'=>σ'= .cell b (zaF d0 path d)::τ:=qAU h j hy hw l hs c m.2 hn f p
theorem yv.agg{t:TypeId}{zs:List D}(h:yB P t zs):yv P t (.agg zs):=by
 obtain⟨a,it,fields,b,c,_⟩:=h;exact⟨by simpa[zok]using a,.agg (zcs zs).toArray,by rw[b];simp[c],by simp[Value.cells,zc]⟩
theorem yv.val{t:TypeId}{z:D}(v:Value)(a:zok z=true)(b:(P.info? t).map (·.zero)=some (some v))(c:v.cells.toList=zc z):yv P t z:=⟨a,v,b,c⟩
theorem qo1{e el:TypeId}{s:Nat}{σ:St}(l:o.op= .alloc e)(m:yv P e (.lst [])):zp P o ρ σ fun d' σ'=>∃b u,d'= .ref b 0 []∧σ'= .cell b (.own u []):: .row u 0 el s::σ:=fun K p a w hi h=>by
 obtain⟨_,v,n,q⟩:=m;obtain⟨i,c,f⟩:=jC.1 n;have hr:(execOp a.eval o).run P w= .ok (.value (.pointer (some ⟨w.heap.size,0,none⟩))) (w.alloc (.cells v.cells e)):=by
  unfold execOp;rw[l];simp[Instr.alloc,zeroValue,typeInfo,c,f,newVar,newRow]
 unfold Oper.wp;rw[hr];have j:v.cells=(Value.slice none 0 0).cells:=jY.1 (by rw[q];rfl);refine⟨_,.ref w.heap.size 0 [],_,p,rfl,⟨w.heap.size,.slice none 0 0,rfl,rfl⟩,by simp only[Rep],?_,qaw hi.pub _⟩;have r:=(hi.alloc (.cells v.cells e)).more (o:=.row (.slice none 0 0) 0 el s) ⟨⟨[],World.ownsRow_nil _ 0 el s⟩,fun g t=>by simp[Value.ownBlock]at t⟩ (fun b hb=>by simp[Ob.blk,Value.ownBlock]at hb);refine r.more ⟨.slice none 0 0,e,by simp only[Rep];exact⟨trivial,none,0,[],rfl,by simp,by omega,.inl rfl,zj.nil _ _,by simp⟩,rfl,by rw[←j];exact heap_alloc_new w _,fun x z hb=>?_⟩ fun b hb=>?_;obtain⟨u,hu⟩:=hi.pub x z;have:=qfs hu;omega;simp only[Ob.blk,Option.some.injEq]at hb;subst hb;refine⟨.inl hi.size,fun hm=>?_⟩;simp only[yl,vt,Ob.blk,Value.ownBlock]at hm;have:=hi.lt (b:=w.heap.size) hm;omega
theorem getm{α:Type}{f:α→D}{l:List α}{i:Nat}{a:α}(h:l[i]? =some a):(l.map f)[i]? =some (f a):=by simp[h]
theorem zaQ{α:Type}{f:α→D}{l:List α}{s:Nat}(h:∀a,sz (f a)=s):zx s (l.map f):=fun d hd=>by
 obtain⟨a,_,rfl⟩:=jt.1 hd;exact h a
theorem qCx{m:Md}{f:FuncId}{fn:Func}{K:Ctx}{R:D→St→Prop}{k:List Item}{env:Env}{σ:St}(s:Nat){b:D}{l:List D}(hs:lk env s=some b)(hl:AsL b l)(h:l.length≤9223372036854775807→ze m P f fn K R k env σ):ze m P f fn K R k env σ:=
 qpt (fun p a w _ hr=>by
  obtain⟨A,c,xs,_,e,g,_⟩:=hl.rep (hr s _ hs);omega) h
theorem qDm{m:Md}{f:FuncId}{fn:Func}{K:Ctx}{R:D→St→Prop}{k:List Item}{env:Env}{σ:St}(s:Nat){n:Int}(hs:lk env s=some (.int .i64 n))(h:(-9223372036854775808≤n∧n<9223372036854775808)→ze m P f fn K R k env σ):ze m P f fn K R k env σ:=
 qpt (fun p a w _ hr=>by
  have:=hr s _ hs;simp only[Rep]at this;exact qfu this.2) h
theorem qjw{f:FuncId}{ds:List D}{v:Value}(hd:∀p w,Rep p w d v)(h:∀(p:Addr→Prop)(w:World)(l:List Value),(∀a,p a→∃u,w.cell? a=some u)→zB p w ds l→Calls P f l.toArray w (Ret w (Is v))):zf P f ds d:=fun w p l hi q=>by
 refine(h p w l hi.pub q).mono fun e w' hr=>?_;obtain⟨n,rfl,m,he⟩:=hr;obtain rfl:n=v:=m;have g:zE p w p w':=fun a c=>⟨c,by
  obtain⟨u,hu⟩:=hi.pub a c;exact(he.cellOf hu).trans hu.symm⟩
 have j:∀a,p a→∃v,w'.cell? a=some v:=fun a c=>by
  obtain⟨u,hu⟩:=hi.pub a c;exact⟨u,he.cellOf hu⟩
 refine .inl ⟨n,d,[],p,rfl,rfl,hd p w',?_⟩;exact{ok:=fun o r=>(by cases r),nd:=vL,mine:=fun b hb=>(by cases hb),pub:=j,gr:=g,neu:=fun a c=>.inl c,os:=he.os,tape:=he.tape,output:=he.output,size:=he.size,block:=fun b hb _=>he.block b hb}
theorem zd{env:Env}{σ:St}{t:Nat}{e d:D}(h:lk env t=some e)(hw:Wk e d):ResD P env σ (.tmp t) d:=⟨e,h,hw⟩
theorem zam{env:Env}{σ:St}{t b n:Nat}{ty:TypeId}{e d:D}(h:lk env t=some (.ref b 0 []))(hm: .cell b e∈σ)(a:Ty P ty e.isAgg n)(hn:sz e=n)(hw:Wk e d):ResD P env σ (.cell t ty) d:=⟨e,n,hw,a,hn,.inr ⟨b,h,hm⟩⟩
end
section
variable{P:Program}{o:Oper}{ρ:Operand→Option D}{d:D}
theorem qod{x:Operand}{t e r:TypeId}{s by_:Nat}{j:D}{l:List D}{σ:St}(m:o.op= .binOp .eql t x (.const (.slice none 0 0)) r)(n:ElT P t e s by_)(u:ρ x=some j)(hl:AsL j l)(f:zx s l):zp P o ρ σ fun d' σ'=>∃b,d'= .bool b∧(b=true→l=[])∧σ'=σ:=fun K p a w hi h=>by
 obtain⟨A,c,xs,v,F,G,g,z,_⟩:=hl.rep (h x (by rw[m];simp[Op.operands]) _ u);have hr:(execOp a.eval o).run P w= .ok (.value (.bool A.isNone)) w:=by
  unfold execOp;rw[m];have B:eqGuard .eql t x (.const (.slice none 0 0)) (.slice A l.length c) (.slice none 0 0)=pure ():=rfl;have C:binOp .eql t (.slice A l.length c) (.slice none 0 0)=(do pure (.bool (←Op.equal t (.slice A l.length c) (.slice none 0 0)))):=rfl;have E:a.eval (.const (.slice none 0 0))= .slice none 0 0:=rfl;simp[v,B,C,E,run_equal_slice_nil w t e A l.length c n.1]
 unfold Oper.wp;rw[hr];refine⟨_,.bool A.isNone,σ,p,rfl,⟨_,rfl,fun hb=>?_,rfl⟩,by simp only[Rep],hi,zE.refl p w⟩;cases A with
 |some ad=>cases hb
 |none=>
  rcases g with g|⟨b,o',g,_⟩
  subst g;have:=z.len;rw[f.szs]at this;cases l with
  |nil=>rfl
  |cons y l=>
   have q:=j6 (show 0<(y::l).length by simp) n.2.2;rw[←this]at q;simp at q
  cases g
theorem qv7{K:Ctx}{p:Addr→Prop}{σ:St}{w:World}{e:TypeId}{s cap:Nat}{l:List D}{xs junk:List Value}(hi:Inv K p σ w)(hr:zj p w l xs)(h:∀u∈xs,u.oneCell'=true)(c:zx s l)(f:0<s)(hn:l.length≤cap)(j:cap≤9223372036854775807):
 Rep p (w.alloc (.cells (xs++junk).toArray e)) (.arr w.heap.size s 0 l.length) (.slice (some ⟨w.heap.size,0,none⟩) l.length cap)∧Inv K p (.arr w.heap.size l e s::σ) (w.alloc (.cells (xs++junk).toArray e))∧zE p w p (w.alloc (.cells (xs++junk).toArray e)):=by
 have g:=qaw hi.pub (.cells (xs++junk).toArray e);refine⟨?_,?_,g⟩
 · simp only[Rep]
   exact⟨_,cap,rfl,hn,j,.inr og⟩
 · refine(hi.alloc _).more ⟨c,by omega,f,.inr ⟨xs,junk,hr.grow g,h,heap_alloc_new w _,fun a m hb=>?_⟩⟩ fun b hb=>?_
   · obtain⟨u,hu⟩:=hi.pub a m
     have:=qfs hu;omega
   · cases l with
     |nil=>simp[Ob.blk]at hb
     |cons y l=>
      simp only[Ob.blk,Option.some.injEq]at hb;subst hb;exact⟨.inl hi.size,fun hm=>by have:=hi.lt hm;omega⟩
theorem qyB{x y:Operand}{t e:TypeId}{s by_:Nat}{m:List D}{X:D}{σ:St}(N:o.op= .call {callee:=.builtin .append,args:=#[x,y],argTypes:=#[t,t]})(Z:ElT P t e s by_)(hx:ρ x=some (.full []))(hy:ρ y=some X)(hm:AsL X m)(I:zx s m)(hb:m.length*by_≤140737488355328):zp P o ρ σ fun d' σ'=>∃b,d'= .arr b s 0 m.length∧σ'= .arr b m e s::σ:=fun K p a w hi h=>by
 obtain⟨hu,⟨z,hz,hzs⟩,u⟩:=Z;obtain⟨i,C,J,E,O⟩:=info_parts hz;have L:=h x (by rw[N];simp[Op.operands,Call.operands]) _ hx;obtain⟨A,c,ys,g1,g2,g3,Q,Y,g6⟩:=hm.rep (h y (by rw[N];simp[Op.operands,Call.operands]) _ hy);simp only[Rep,ji]at L;obtain⟨B,xs,k1,k2,k3,k4,k5⟩:=L;have n:ys.length=m.length*s:=by rw[Y.len,I.szs]
 have f:∀r,(Builtin.append_ #[t,t] o.type #[.slice B 0 0,.slice A m.length c]).run P w=r→(execOp a.eval o).run P w=r.andThen fun v w'=>.ok (.value v) w':=fun r hr=>by
  subst hr;unfold execOp;simp only[N,resolve,invoke,builtin,Sem.run_bind,Sem.run_pure,Result.andThen_ok,vF,jm,jU,k1,g1]
 by_cases F:m.length=0;have M:m=[]:=jG F;subst M;have hr:(Builtin.append_ #[t,t] o.type #[.slice B 0 0,.slice A 0 c]).run P w= .ok (.slice B 0 0) w:=by
  cases A<;>cases B<;>simp[Builtin.append_,run_underlying hu,sizeOf,typeInfo,C,Builtin.lenOf,Builtin.firstCells,loadCells,loadCellsFrom,storeCells]
 unfold Oper.wp;rw[f _ hr];refine⟨_,.arr 0 s 0 0,_,p,rfl,⟨0,rfl,rfl⟩,?_,hi.more (o:=.arr 0 [] e s) ⟨zx.nil s,by simp,u,.inl rfl⟩ (fun b hb=>by simp[Ob.blk]at hb),zE.refl p w⟩;simp only[Rep];exact⟨B,0,rfl,jf _,by omega,Or.inl trivial⟩;have G:ys≠[]:=fun G=>by
  rw[G]at n;have:=j6 (vU F) u;simp at n;omega
 rcases Q with Q|⟨b,o',rfl,H⟩
 exact absurd Q G;have g:∀j v,ys[j]? =some v→w.cell? ((⟨b,o',none⟩:Addr).add j)=some v:=fun j v hv=>by rw[zan];exact(H j v hv).2
 have R:0<m.length:=vU F;subst E;subst O;have hcm:grownCap w m.length 0 e≤maxLen:=grownCap_le_maxLen w m.length 0 e (by unfold maxLen;omega);have hmx:maxLen=9223372036854775807:=rfl;have S:=grownCap_ge w m.length 0 e;obtain⟨U,V,W⟩:=qv7 (K:=K) (p:=p) (σ:=σ) (w:=w.drew) (e:=e) (cap:=grownCap w m.length 0 e) (l:=m) (xs:=ys) (junk:=(Builtin.zeroCells z.cells (grownCap w m.length 0 e-m.length)).toList) hi.drew (Y.grow (qdu p w)) g6 I u S oa;have q:(ys++(Builtin.zeroCells z.cells (grownCap w m.length 0 e-m.length)).toList).toArray=ys.toArray++Builtin.zeroCells z.cells (grownCap w m.length 0 e-m.length):=by
  apply jY.1;simp
 rw[q]at U V W;cases B with
 |none=>
  have hr:=run_append_nil (P:=P) w t o.type e i z hu C J ⟨b,o',none⟩ m.length c ys n g oa oa oa;unfold Oper.wp;rw[f _ hr];exact⟨_,_,_,p,rfl,⟨_,rfl,rfl⟩,U,V,(qdu p w).tr W⟩
 |some ad=>
  have hr:=run_append_grow (P:=P) w t o.type e i z hu C J ad 0 0 [] og og ⟨b,o',none⟩ m.length c ys n g oa oa (growslice_fits oa (by simpa using hb));simp only[jc]at hr;have e0:([]:List Value).toArray++ys.toArray++Builtin.zeroCells z.cells (grownCap w m.length 0 e-m.length)=ys.toArray++Builtin.zeroCells z.cells (grownCap w m.length 0 e-m.length):=by simp
  rw[e0]at hr;unfold Oper.wp;rw[f _ hr];exact⟨_,_,_,p,rfl,⟨_,rfl,rfl⟩,U,V,(qdu p w).tr W⟩
theorem qfk{p:Addr→Prop}{w:World}{z:D}{v:Value}(a:Rep p w z v):∀n,zj p w (List.replicate n z) ((List.replicate n v).flatMap fun v=>v.cells.toList)
 |0=>zj.nil _ _
 |n+1=>by
  simp only[vV,vl];exact zj.cons a (qfk a n)
theorem qlY(zc:Array Value)(n:Nat)(hs:0<zc.size):(madeCells zc (n*zc.size)).toList=(List.replicate n zc).flatMap fun z=>z.toList:=by
 apply List.ext_getElem?;intro j;have gen:∀n j,((List.replicate n zc).flatMap fun z=>z.toList)[j]? =if j<n*zc.size then zc[j%zc.size]? else none:=by
  intro n;induction n with
  |zero=>intro j;simp
  |succ n c=>
   intro j;simp only[vV,vl];by_cases a:j<zc.size;rw[j3 (by simpa using a),if_pos (by rw[jE,vx];omega),Jz a];simp;rw[vP oe,c];simp only[j8];have e:(j-zc.size)%zc.size=j%zc.size:=by
    conv=>rhs;rw[←Nat.sub_add_cancel (Nat.le_of_not_lt a),Nat.add_mod_right]
   rw[e,jE,vx];by_cases b:j<n*zc.size+zc.size;rw[if_pos b,if_pos oa];rw[if_neg b,if_neg oa]
 rw[gen];unfold madeCells;by_cases a:j<n*zc.size;rw[if_pos a];have hm:j%zc.size<zc.size:=Nat.mod_lt _ hs;simp[a,hm];rw[if_neg a];simp;omega
theorem qrD{t e:TypeId}{x y:Operand}{s by_ n:Nat}{k R:IntKind}{S U:Int}{z:D}{σ:St}(G:o.op= .makeSlice t x y)(Z:ElT P t e s by_)(hZ:yv P e z)(hx:ρ x=some (.int k S))(H:S=(n:Int))(hy:ρ y=some (.int R U))(I:U=(n:Int))(hb:by_*n≤281474976710656)(hc:n≤9223372036854775807):
 zp P o ρ σ fun d' σ'=>∃b,d'= .arr b s 0 n∧σ'= .arr b (List.replicate n z) e s::σ:=fun K p a w hi h=>by
 obtain⟨hu,⟨E,hz,j⟩,J⟩:=Z;obtain⟨i,q,r,f,L⟩:=info_parts hz;have V:=h x (by rw[G];simp[Op.operands]) _ hx;have W:=h y (by rw[G];simp[Op.operands]) _ hy;simp only[Rep]at V W;subst H I;have M:(i.bytes:Int)*(n:Int)≤281474976710656:=by
  have:((i.bytes*n:Nat):Int)≤281474976710656:=by rw[L];omega
  rwa [Jy]at this
 have hr:=run_make (P:=P) w t e i E hu q r k R (n:Int) (n:Int) oa (vf _) M oa;simp only[jO]at hr;have A:(execOp a.eval o).run P w= .ok (.value (.slice (some ⟨w.heap.size,0,none⟩) n n)) (w.alloc (.cells (madeCells E.cells (n*i.size)) e)):=by
  unfold execOp;rw[G];simp[V.1,W.1,hr]
 obtain⟨v,F,g,N,X,q4⟩:=hZ.rep p w;rw[q]at g;simp only[Jf,Option.some.injEq]at g;rw[r]at g;injection g with g
 subst g;have O:sz z=s:=by rw[←Rep.sz N,X,j]
 have B:∀u∈(List.replicate n F).flatMap (fun(v:Value)=>v.cells.toList),u.oneCell'=true:=fun u hu=>by
  obtain⟨v'',C,hu⟩:=JR.1 hu;rw[Jg C]at hu;exact Rep.one N q4 u hu
 have c:madeCells E.cells (n*i.size)=(((List.replicate n F).flatMap fun(v:Value)=>v.cells.toList)++([]:List Value)).toArray:=by
  apply jY.1;rw[f,←j,qlY _ _ oa];simp only[jv];induction n with
  |zero=>rfl
  |succ m Q=>
   clear Q;have:∀m,(List.replicate m E.cells).flatMap (fun z=>z.toList)=(List.replicate m F).flatMap fun(v:Value)=>v.cells.toList:=by
    intro m;induction m with
    |zero=>rfl
    |succ m Q=>simp only[vV,vl,Q,X]
   exact this (m+1)
 unfold Oper.wp;rw[A,c];obtain⟨Y,r2,r3⟩:=qv7 (K:=K) (p:=p) (σ:=σ) (w:=w) (e:=e) (cap:=n) (l:=List.replicate n z) (xs:=(List.replicate n F).flatMap fun(v:Value)=>v.cells.toList) (junk:=([]:List Value)) hi (qfk N n) B (fun d hd=>by rw[Jg hd];exact O) J og hc;rw[vz]at Y;exact⟨_,_,_,p,rfl,⟨_,rfl,rfl⟩,Y,r2,r3⟩
theorem qu5{t e:TypeId}{x ix:Operand}{s by_ b lo n:Nat}{k:IntKind}{m:Int}(j:Nat)(g:o.op= .indexAddr t x ix)(u:ElT P t e s by_)(z:ρ x=some (.arr b s lo n))(l:ρ ix=some (.int k m))(hm:m=(j:Int))(B:j<n):zi P o ρ (.mref b (lo+j) s 0 []):=qM fun p a w h=>by
 have f:=h x (by rw[g];simp[Op.operands]) _ z;have v:=h ix (by rw[g];simp[Op.operands]) _ l;simp only[Rep]at f v;obtain⟨A,c,f,C,E,q⟩:=f;have q:=q.resolve_left oa;subst q hm;obtain⟨i,hi,r⟩:=jC.1 u.size;refine⟨.pointer (some ⟨b,(lo+j)*s+0,none⟩),?_,by simp only[Rep]⟩;unfold execOp;rw[g];simp[f,v.1,Instr.indexAt,asIntOf,run_underlying u.1,sizeOf,typeInfo,hi,r,B,zan,jE]
theorem qza{s:TypeId}{x:Operand}{f off b i c e:Nat}{path:List Nat}(g:o.op= .fieldAddr s x f)(hF:Fld P s f off)(l:ρ x=some (.mref b i c e path)):zi P o ρ (.mref b i c (e+off) (path++[f])):=qM fun p a w h=>by
 have j:=h x (by rw[g];simp[Op.operands]) _ l;simp only[Rep]at j;refine⟨.pointer (some ⟨b,i*c+e+off,none⟩),?_,by simp only[Rep];rw[jS]⟩;unfold execOp;rw[g];simp[j,qkC hF]
theorem qAZ{t e:TypeId}{x:Operand}{n b i s off:Nat}{path:List Nat}{σ:St}{l:List D}{d0:D}(u:o.op= .load t x)(B:ρ x=some (.mref b i s off path))(C: .arr b l e s∈σ)(hl:l[i]? =some d0)(hs:zai d0 path=some d)(c:yT d0 path=off)(E:Ty P t d.isAgg n)(hn:sz d=n):zp P o ρ σ fun d' σ'=>d'=d∧σ'=σ:=fun K p a w hi h=>by
 have z:=h x (by rw[u];simp[Op.operands]) _ B;simp only[Rep]at z;obtain⟨F,I,J,m⟩:=hi.ok _ C;obtain⟨xs,junk,m,L,G,M⟩:=m.resolve_left (fun h=>by rw[h]at hl;simp at hl);obtain⟨v0,q,f⟩:=m.at_cell hl;obtain⟨v,A,H⟩:=qjR q hs;have g:(l.take i).length=i:=by have:=(jd.1 hl).1;simp;omega
 rw[(F.take i).szs,g]at f;have r:=qfT (P:=P) (b:=b) (o:=i*s+off) E hn A (fun j y hy=>by
  rw[cell_of_row _ _ _ _ _ _ G,←c];have:=f _ y (H j y hy);have hlt:=(jd.1 this).1;simp only[vD];rw[jS,j3 hlt];exact this)
 have hr:(execOp a.eval o).run P w= .ok (.value v) w:=by
  unfold execOp;rw[u];simp[z,Instr.loadAt,Instr.sureAddr,r]
 unfold Oper.wp;rw[hr];exact⟨v,d,σ,p,rfl,⟨rfl,rfl⟩,A,hi,zE.refl p w⟩
theorem qx3{t e:TypeId}{x y:Operand}{n b i s off:Nat}{path:List Nat}{σ:St}(τ:St){l:List D}{d0 z Z:D}{ag:Bool}(O:o.op= .store t x y)(hx:ρ x=some (.mref b i s off path))(hy:ρ y=some Z)(hw:Wk Z d)(hσ:σ.Perm (.arr b l e s::τ))(hl:l[i]? =some d0)(Q:d0.plain=true)(hs:zai d0 path=some z)(j:yT d0 path=off)(ht:Ty P t ag n)(hn:sz d=n)(R:sz z=n)(hp:d.plain=true):zp P o ρ σ fun _ σ'=>σ'= .arr b (l.set i (zaF d0 path d)) e s::τ:=fun K p a w hi h=>by
 have h1:=h x (by rw[O];simp[Op.operands]) _ hx;simp only[Rep]at h1;have S:=hw _ _ _ (h y (by rw[O];simp[Op.operands]) _ hy);have F:=hi.perm hσ;obtain⟨M,g2,g0,G⟩:=F.ok _ (je ..);obtain⟨xs,junk,G,g4,g5,g6⟩:=G.resolve_left (fun h=>by rw[h]at hl;simp at hl);obtain⟨ii,U,V⟩:=jC.1 ht.2;have E:(a.eval y).cells.size=n:=by rw[Rep.sz S,hn]
 have hil:=(jd.1 hl).1;have H:(l.take i).length=i:=by simp;omega
 obtain⟨v0,I,c,f⟩:=G.at_ hl;obtain⟨N,q1,q2,q3,q4,W⟩:=qna I hs (by rw[hn,R]) S hp Q;have m:=zj.set G hl W q1;rw[(M.take i).szs,H]at c f m;have g:sz d0=s:=M d0 (List.mem_of_getElem? hl);have hv0l:v0.cells.toList.length=s:=by rw[←g];simpa using Rep.sz I
 have hxl:xs.length=l.length*s:=by rw[G.len,M.szs]
 have hle:(i+1)*s≤l.length*s:=jH s oa;rw[jE,vx]at hle;have J:=run_storeCells_at (P:=P) b (i*s+off) e (a.eval y).cells.toList 0 (xs++junk).toArray w g5 (by
  simp only[j8,E,vh,jV,ja];rw[g,hn,j]at q4;omega) (Rep.one S hp)
 -- what the block holds now
 have L:((xs++junk).toArray.toList.take (i*s+off+0)++(a.eval y).cells.toList++(xs++junk).toArray.toList.drop (i*s+off+0+(a.eval y).cells.toList.length)).toArray=((xs.take (i*s)++N.cells.toList++xs.drop (i*s+s))++junk).toArray:=by
  congr 1
  simp only[vh,j8,E,←hn];rw[q3,j];rw[g,j]at q4;generalize hA:xs.take (i*s)=A at c f⊢;generalize hB:xs.drop (i*s+s)=B;rw[g,hB]at c;rw[c];have e1:(A++v0.cells.toList++B++junk).take (i*s+off)=A++v0.cells.toList.take off:=by
   rw[←f,jo,jo,v7,Jn oa]
  have e2:(A++v0.cells.toList++B++junk).drop (i*s+off+sz d)=v0.cells.toList.drop (off+sz d)++(B++junk):=by
   rw[←f,jo,jo,jS,Ja,JE oa]
  rw[e1,e2];simp only[jo]
 rw[L]at J;have hr:(execOp a.eval o).run P w= .ok .skip (w.setRow b ((xs.take (i*s)++N.cells.toList++xs.drop (i*s+s))++junk).toArray):=by
  unfold execOp;rw[O];simp only[h1,Instr.storeAt,Instr.sureAddr,storeVar,Sem.run_bind,Sem.run_pure,Result.andThen_ok,sizeOf,typeInfo,run_program,U,E,V,ne_eq,not_true_eq_false,if_false,J]
 have q:∀r,p r→(w.setRow b ((xs.take (i*s)++N.cells.toList++xs.drop (i*s+s))++junk).toArray).cell? r=w.cell? r:=fun r v=>qdy (setRow_other w b _ _ (g6 r v));have gr:zE p w p (w.setRow b ((xs.take (i*s)++N.cells.toList++xs.drop (i*s+s))++junk).toArray):=fun r v=>⟨v,q r v⟩
 have C:∀l':List D,l'.length=l.length→(Ob.arr b l' e s).blk=some b:=fun l' X=>by
  cases l' with
  |nil=>simp at X;omega
  |cons=>rfl
 unfold Oper.wp;rw[hr];refine⟨Go.undef,.undef,_,p,rfl,rfl,by simp only[Rep],?_,gr⟩;rw[W,g]at m;refine F.write (b:=b) (C l rfl) (C _ og) gr (fun r v=>.inl v) ⟨fun e' Y=>?_,by simpa using g2,g0,.inr ⟨_,junk,m.grow gr,fun u hu=>?_,setRow_heap w b _ _ _ _ g5,g6⟩⟩ (fun r v=>?_) rfl rfl rfl og fun k hk=>setRow_other w b k _ hk;rcases J1 Y with h|rfl
 exact M e' h;rw[W,g];rcases jl.1 hu with hu|hu
 rcases jl.1 hu with hu|hu
 exact g4 u (j9 hu);exact Rep.one q1 q2 u hu;exact g4 u (vy hu);obtain⟨u,hu⟩:=hi.pub r v;exact⟨u,by rw[q r v];exact hu⟩
theorem qkz{m:Md}{f:FuncId}{fn:Func}{K:Ctx}{R:D→St→Prop}{k:List Item}{env:Env}{σ τ:St}{e:TypeId}{b s n:Nat}{l:List D}(t:Nat)(hs:lk env t=some (.arr b s 0 n))(Y:σ.Perm (.arr b l e s::τ))(hn:n=l.length)(h:ze m P f fn K R k ((t,.lst l)::env) τ):ze m P f fn K R k env σ:=fun p a w hi hr M hd=>by
 have r:=hi.perm Y;subst hn;obtain⟨g1,g2,g0,N⟩:=r.ok _ (je ..);have L:=hr t _ hs;simp only[Rep]at L;obtain⟨A,c,L,B,C,Z⟩:=L;have step:∀E,zE p w E w→Inv K E τ w→Rep E w (.lst l) (.slice A l.length c)→Rest m P f fn K R k a w:=fun E g O F=>h E a w O (fun U d' q=>by
  rw[qa5]at q;by_cases G:t=U;subst G;rw[if_pos rfl]at q;injection q with q
  subst q;rw[L];exact F;rw[if_neg G]at q;exact(hr U d' q).grow g) M hd
 by_cases x:l=[]
 subst x;refine step p (zE.refl p w) r.tail ?_;simp only[Rep];exact⟨A,c,[],rfl,B,C,.inl rfl,zj.nil _ _,by simp⟩;obtain⟨xs,junk,N,g4,V,g6⟩:=N.resolve_left x;have Q:=Z.resolve_left (fun h=>x (jG h));have z:(Ob.arr b l e s).blk=some b:=by
  cases l with
  |nil=>exact absurd rfl x
  |cons=>rfl
 have hbl:b<w.heap.size:=(jL.1 V).1;have hm:=r.mine b (qd0.2 ⟨_,je ..,z⟩);have H:=r.nd;have S:b∉yl τ:=by
  simp only[yl,vt,z,vd]at H;exact H.1
 have v:∀j u,xs[j]? =some u→w.cell? ⟨b,0+j,none⟩=some u:=fun j u hu=>by
  rw[jc,cell_of_row _ _ _ _ _ _ V];have:=(jd.1 hu).1;simp only[vD];rw[j3 this];exact hu
 have hg:=r.tail.give (fun I=>I.block=b∧I.spot=none∧I.off<xs.length) fun I⟨W,X,e3⟩=>by
  obtain⟨b',of,sp⟩:=I;simp only at W X e3;subst W X;refine⟨⟨xs[of],?_⟩,hm,fun o' ho b' hb J=>?_⟩;have:=v of xs[of] og;simpa using this;simp only at J;subst J;exact absurd (qd0.2 ⟨o',ho,hb⟩) S
 refine step _ (qfd p _ w) hg ?_;simp only[Rep];refine⟨A,c,xs,rfl,B,C,.inr ⟨b,0,by rw[Q];simp,fun j u hu=>⟨.inr ⟨rfl,rfl,?_⟩,v j u hu⟩⟩,N.grow (qfd p _ w),g4⟩;have:=(jd.1 hu).1;simp only;omega
theorem qyn{e:TypeId}{s:Nat}{σ:St}(f:0<s)(c:o.op= .assign (.const (.slice none 0 0))∨o.op= .move (.const (.slice none 0 0))):zp P o ρ σ fun d' σ'=>∃b,d'= .arr b s 0 0∧σ'= .arr b [] e s::σ:=fun K p a w hi h=>by
 have hr:(execOp a.eval o).run P w= .ok (.value (.slice none 0 0)) w:=by
  unfold execOp;rcases c with c|c<;>rw[c]<;>rfl
 unfold Oper.wp;rw[hr];refine⟨_,.arr 0 s 0 0,_,p,rfl,⟨0,rfl,rfl⟩,?_,hi.more (o:=.arr 0 [] e s) ⟨zx.nil s,by simp,f,.inl rfl⟩ (fun b hb=>by simp[Ob.blk]at hb),zE.refl p w⟩;simp only[Rep];exact⟨none,0,rfl,jf _,by omega,Or.inl trivial⟩
theorem qvV{t e:TypeId}{parts:Array (Nat×Operand)}{s by_:Nat}{σ:St}(g:o.op= .buildSlice t 0 parts)(f:ElT P t e s by_)(b:parts.toList=[]):zp P o ρ σ fun d' σ'=>∃u,d'= .own u []∧σ'= .row u 0 e s::σ:=fun K p a w hi h=>by
 obtain⟨i,c,j⟩:=jC.1 f.size;have hr:(execOp a.eval o).run P w= .ok (.value (.slice (some ⟨w.heap.size,0,none⟩) 0 0)) (w.alloc (.cells #[] e)):=by
  unfold execOp;rw[g];have:parts= #[]:=jY.1 (by simpa using b);subst this;have m:Array.range 0= #[]:=rfl;simp[Instr.buildSlice,run_underlying f.1,sizeOf,typeInfo,c,Instr.fill,newRow,m]
 unfold Oper.wp;rw[hr];obtain⟨q,r,v,x⟩:=qqa (K:=K) (p:=p) (σ:=σ) (w:=w) (cur:=#[]) (e:=e) (s:=s) (n:=0) (cap:=0) (l:=[]) (xs:=[]) hi og og (zj.nil _ _) og rfl (jf _) (by unfold maxLen;omega);exact⟨_,_,_,q,rfl,⟨_,rfl,rfl⟩,r,v,x⟩
theorem qyy(d x:D):zaF d [] x=x:=by cases d<;>rfl
theorem qb0{t:TypeId}{x y:Operand}{n b:Nat}{σ:St}(τ:St){d0 e:D}{c:Bool}(f:o.op= .store t x y)(g:ρ x=some (.ref b 0 []))(hy:ρ y=some e)(hw:Wk e d)(j:σ.Perm (.cell b d0::τ))(l:Ty P t c n)(hn:sz d=n)(a:sz d0=n)(m:d.plain=true):zp P o ρ σ fun _ σ'=>σ'= .cell b d::τ:=by
 have h:=qnZ (P:=P) (d:=d) τ f g hy hw j (show zai d0 []=some d0 by cases d0<;>rfl) (by cases d0<;>rfl) l hn a m;rw[qyy]at h;exact h
end
section
variable{P:Program}{o:Oper}{ρ:Operand→Option D}
theorem qyZ{t e:TypeId}{x y:Operand}{s by_ b lo n m:Nat}{k:IntKind}{j:Int}(g:o.op= .slice t x (some y) none none)(q:ElT P t e s by_)(u:ρ x=some (.arr b s lo n))(hy:ρ y=some (.int k j))(hm:j=(m:Int))(hle:m≤n):zi P o ρ (.arr b s (lo+m) (n-m)):=qM fun p a w h=>by
 have f:=h x (by rw[g];simp[Op.operands]) _ u;have r:=h y (by rw[g];simp[Op.operands]) _ hy;simp only[Rep]at f r;obtain⟨A,c,f,B,C,v⟩:=f;subst hm;obtain⟨i,hi,l⟩:=jC.1 q.size;refine⟨.slice (if c=m then A else A.map (·.add (m*s))) (n-m) (c-m),?_,?_⟩;unfold execOp;rw[g];have hb:(Instr.sliceBounds true n c (some (a.eval y)) none none).run P w= .ok (m,n,c) w:=by
  unfold Instr.sliceBounds;simp[r.1,Instr.sliceBound,asIntOf,hle]
 simp[f,Instr.sliceAt,Instr.slice,run_underlying q.1,hb,sizeOf,typeInfo,hi,l];simp only[Rep];refine⟨_,c-m,rfl,by omega,by omega,?_⟩;by_cases z:n=m;exact .inl oa;right;rw[if_neg oa,v.resolve_left oa];simp[zan,jE]
theorem qq6{t t' e:TypeId}{x y:Operand}{s by_ b lo n:Nat}{σ:St}(τ:St){l l2:List D}{dy:D}(Y:o.op= .call {callee:=.builtin .copy,args:=#[x,y],argTypes:=#[t,t']})(Z:ElT P t e s by_)(hx:ρ x=some (.arr b s lo n))(hy:ρ y=some dy)(hl2:AsL dy l2)(hσ:σ.Perm (.arr b l e s::τ))(E:lo+n≤l.length)(f:zx s l2):
 zp P o ρ σ fun d' σ'=>d'= .int .i64 ((min l2.length n:Nat):Int)∧σ'= .arr b (l.take lo++l2.take (min l2.length n)++l.drop (lo+min l2.length n)) e s::τ:=fun K p a w hi h=>by
 have M:=h x (by rw[Y];simp[Op.operands,Call.operands]) _ hx;have h2:=hl2.rep (h y (by rw[Y];simp[Op.operands,Call.operands]) _ hy);simp only[Rep]at M;obtain⟨A,c,M,h3,h4,h5⟩:=M;obtain⟨A2,c2,z,k1,k2,k3,k4,k5,k6⟩:=h2;have H:=hi.perm hσ;obtain⟨i,N,O⟩:=jC.1 Z.size;generalize hm:min l2.length n=m;have hm63:m≤9223372036854775807:=by omega
 by_cases hm0:m=0
 · subst hm0
   have hr:(execOp a.eval o).run P w= .ok (.value (.int .i64 0)) w:=by
    have hl:∀(x:Addr),(loadCells x 0).run P w= .ok #[] w:=fun x=>by simpa using run_loadCells_list (P:=P) w x [] og
    unfold execOp;rw[Y];have I:Nat.min l2.length n=0:=hm;cases A<;>cases A2<;>simp[resolve,invoke,builtin,M,k1,Builtin.copy_,run_underlying Z.1,Builtin.lenOf,Builtin.firstCells,sizeOf,typeInfo,N,O,I,storeCells,hl,goInt]
   unfold Oper.wp;rw[hr];refine⟨_,.int .i64 0,_,p,rfl,⟨rfl,rfl⟩,by simp only[Rep];exact⟨trivial,by decide⟩,?_,zE.refl _ _⟩;simpa using H
 · obtain⟨Q,g2,g0,R⟩:=H.ok _ (je ..)
   have hA:=h5.resolve_left oa;subst hA;obtain⟨xs,junk,R,g4,g5,g6⟩:=R.resolve_left (fun hh=>by rw[hh]at E;simp at E;omega);have hxl:xs.length=l.length*s:=by rw[R.len,Q.szs]
   have F:z.length=l2.length*s:=by rw[k5.len,f.szs]
   have hms:m*s≤l2.length*s:=jH s oa;have hfs:(lo+m)*s≤l.length*s:=jH s oa;have hmp:0<m*s:=j6 oa g0;rw[jE]at hfs;have hne:z≠[]:=fun hh=>by rw[hh]at F;simp at F;omega
   obtain⟨b2,o2,rfl,hc2⟩:=k4.resolve_left hne;generalize B:z.take (m*s)=cs;have S:cs.length=m*s:=by rw[←B,jA];omega
   have U:∀v∈cs,v.oneCell'=true:=fun v J=>k6 v (j9 (B▸J));have g:=run_loadCells_list (P:=P) w ⟨b2,o2,none⟩ cs fun j v J=>by
    rw[zan];have:z[j]? =some v:=by
     rw[←B]at J;rw[jZ]at J;split at J
     exact J;cases J
    exact(hc2 j v this).2
   have V:=run_storeCells_at (P:=P) b (lo*s) e cs 0 (xs++junk).toArray w g5 oe U;have W:((xs++junk).toArray.toList.take (lo*s+0)++cs++(xs++junk).toArray.toList.drop (lo*s+0+cs.length)).toArray=((xs.take (lo*s)++cs++xs.drop (lo*s+m*s))++junk).toArray:=by
    congr 1
    simp only[vh,S];rw[Jn oa,JE oa];simp only[jo]
   rw[W]at V;have hr:(execOp a.eval o).run P w= .ok (.value (.int .i64 (m:Int))) (w.setRow b ((xs.take (lo*s)++cs++xs.drop (lo*s+m*s))++junk).toArray):=by
    unfold execOp;rw[Y];have I:Nat.min l2.length n=m:=hm;rw[S]at g;simp[resolve,invoke,builtin,M,k1,Builtin.copy_,run_underlying Z.1,Builtin.lenOf,Builtin.firstCells,sizeOf,typeInfo,N,O,I,g,V,goInt]
   have q:∀r,p r→(w.setRow b ((xs.take (lo*s)++cs++xs.drop (lo*s+m*s))++junk).toArray).cell? r=w.cell? r:=fun r C=>qdy (setRow_other w b _ _ (g6 r C));have gr:zE p w p (w.setRow b ((xs.take (lo*s)++cs++xs.drop (lo*s+m*s))++junk).toArray):=fun r C=>⟨C,q r C⟩
   have L:(l.take lo++l2.take m++l.drop (lo+m)).length=l.length:=by simp;omega
   have G:∀l':List D,l'.length=l.length→(Ob.arr b l' e s).blk=some b:=fun l' hl'=>by
    cases l' with
    |nil=>simp at hl';omega
    |cons=>rfl
   have t1:szs (l.take lo)=lo*s:=by rw[(Q.take lo).szs,jA];congr 1;omega
   have t2:szs (l2.take m)=m*s:=by rw[(f.take m).szs,jA];congr 1;omega
   have t3:szs (l.take (lo+m))=lo*s+m*s:=by rw[(Q.take (lo+m)).szs,jA,←jE];congr 1;omega
   have r1:=R.take lo;have r2:=k5.take m;have r3:=R.drop (lo+m);rw[t1]at r1;rw[t2,B]at r2;rw[t3]at r3;have X:=zj.app (zj.app r1 r2) r3;unfold Oper.wp;rw[hr];refine⟨_,.int .i64 (m:Int),_,p,rfl,⟨rfl,rfl⟩,by simp only[Rep];exact⟨trivial,wrap64 oa⟩,?_,gr⟩;refine H.write (b:=b) (G l rfl) (G _ L) gr (fun r C=>.inl C) ⟨?_,by omega,g0,.inr ⟨_,junk,X.grow gr,fun u hu=>?_,setRow_heap w b _ _ _ _ g5,g6⟩⟩ (fun r C=>?_) rfl rfl rfl og fun k hk=>setRow_other w b k _ hk
   · exact((Q.take lo).app (f.take m)).app (Q.drop (lo+m))
   · rcases jl.1 hu with hu|hu
     · rcases jl.1 hu with hu|hu
       · exact g4 u (j9 hu)
       · exact U u hu
     · exact g4 u (vy hu)
   · obtain⟨u,hu⟩:=hi.pub r C
     exact⟨u,by rw[q r C];exact hu⟩
end
open Classical in
def zA(v:Value):List MapEntry→Nat→Option (Nat×Value) |[],_=>none |e::es,i=>if e.key=v then some (i,e.val)else zA v es (i+1)
structure yO(P:Program)(kt:TypeId){α:Type}(key:α→D)(vk:α→Value)(d:Value→Prop):Prop where
 rep:∀(p:Addr→Prop)(w:World)(a:α)(v:Value),Rep p w (key a) v→v=vk a
 good:∀(p:Addr→Prop)(w:World)(a:α)(v:Value),Rep p w (key a) v→d v
 inj:∀a b,vk a=vk b→a=b
 check:∀(w:World)(em:Bool)(v:Value),d v→(Instr.checkKey em 10000 kt v).run P w= .ok () w
 find:∀(w:World)(v:Value)(es:List MapEntry),d v→(∀e∈es,d e.key)→(Instr.findKey kt v es).run P w= .ok (zA v es 0) w
 stays:∀(w:World)(v:Value),d v→(Instr.keyThatStays v v).run P w= .ok v w
theorem qkU{d:TypeDesc}{k:Value}(c:MapKept.IsKey d k):∀(es:List MapEntry)(i:Nat),(∀e∈es,MapKept.IsKey d e.key)→Instr.findNow d k es i=some (zA k es i)
 |[],i,_=>rfl
 |e::es,i,h=>by
  obtain⟨b,hb,a⟩:=MapKept.sameNow_of_keys c (h e (je ..));simp only[Instr.findNow,hb,zA];cases b with
  |true=>rw[if_pos (a.1 rfl).symm]
  |false=>
   rw[if_neg fun e=>by have:=a.2 e.symm;cases this];exact qkU c es (i+1) fun x f=>h x (jp _ f)
theorem qu6{P:Program}{kt:TypeId}{d:TypeDesc}{α:Type}{key:α→D}{vk:α→Value}(h:P.underlying kt=some d)(e:∀(p:Addr→Prop)(w:World)(a:α)(v:Value),Rep p w (key a) v→v=vk a)(f:∀a,MapKept.IsKey d (vk a))(g:∀a b,vk a=vk b→a=b):yO P kt key vk (MapKept.IsKey d):=
 ⟨e,fun p w a v c=>by rw[e p w a v c];exact f a,g,fun w em v c=>MapKept.run_checkKey h c em 9999,fun w v es c he=>MapKept.run_findKey h (qkU c es 0 he),fun w v c=>MapKept.run_keyThatStays c⟩
theorem zaA{P:Program}{kt:TypeId}{k:IntKind}(h:P.underlying kt=some (.int k)):yO P kt (fun n:Int=>D.int k n) (fun n=>.int k n) (MapKept.IsKey (.int k)):=
 qu6 h (fun p w a v c=>by simp only[Rep]at c;exact c.1) (fun a=>rfl) fun a b e=>by injection e
theorem qeU{α:Type}{P:Program}{kt:TypeId}{key:α→D}{vk:α→Value}{d:Value→Prop}(hK:yO P kt key vk d){p:Addr→Prop}{w:World}:∀{l:List (α×D)}{es:List MapEntry},zU p w (l.map fun q=>(key q.1,q.2)) es→∀e∈es,d e.key
 |[],es,h,e,he=>by
  simp only[jU,zU]at h;subst h;cases he
 |r::l,es,h,e,he=>by
  simp only[jm,zU]at h;obtain⟨c,rest,rfl,a,f,b⟩:=h;rcases jx.1 he with rfl|he
  exact hK.good _ _ _ _ a;exact qeU hK b e he
section
variable{α:Type}[DecidableEq α]
abbrev yS(key:α→D)(l:List (α×D)):List (D×D):=l.map fun q=>(key q.1,q.2)
def yz:List (α×D)→α→Option D |[],_=>none |q::l,x=>if q.1=x then some q.2 else yz l x
def zaK:List (α×D)→α→D→List (α×D) |[],x,d=>[(x,d)] |q::l,x,d=>if q.1=x then(x,d)::l else q::zaK l x d
theorem qqr:∀(l:List (α×D))(x:α)(d:D),(zaK l x d).length≤l.length+1
 |[],x,d=>by simp[zaK]
 |q::l,x,d=>by
  unfold zaK;split
  simp;have:=qqr l x d;simp only[jg];omega
theorem qia{P:Program}{kt:TypeId}{key:α→D}{vk:α→Value}{d:Value→Prop}(hK:yO P kt key vk d)(p:Addr→Prop)(w:World)(x:α)(c:D):∀(l:List (α×D))(es:List MapEntry)(i:Nat),zU p w (yS key l) es→
 (zA (vk x) es i=none∧yz l x=none∧zaK l x c=l++[(x,c)])∨
 ∃j e t,zA (vk x) es i=some (i+j,e.val)∧es[j]? =some e∧e.key=vk x∧yz l x=some t∧Rep p w t e.val∧∀(q:Addr→Prop)(u:World)(a:MapEntry),zE p w q u→Rep q u (key x) a.key→Rep q u c a.val→zU q u (yS key (zaK l x c)) (es.set j a)
 |[],es,i,h=>by
  simp only[yS,jU,zU]at h;subst h;exact .inl ⟨rfl,rfl,rfl⟩
 |r::l,es,i,h=>by
  simp only[yS,jm,zU]at h;obtain⟨e,rest,rfl,A,B,C⟩:=h;have v:=hK.rep _ _ _ _ A;by_cases b:r.1=x;refine .inr ⟨0,e,r.2,by simp[zA,v,b],rfl,by rw[v,b],by simp[yz,b],B,fun q u a g f m=>?_⟩;simp only[zaK,if_pos b,yS,jm,zU,jN];exact⟨a,rest,rfl,f,m,C.grow g⟩;have n:e.key≠vk x:=fun a=>b (hK.inj _ _ (by rw[←v];exact a));rcases qia hK p w x c l rest (i+1) C with⟨f,m,z⟩|⟨j,E,t,f,m,z,F,G,H⟩
  exact .inl ⟨by simp[zA,n,f],by simp[yz,b,m],by simp[zaK,b,z]⟩;refine .inr ⟨j+1,E,t,by simp[zA,n,f];omega,by simpa using m,z,by simp[yz,b,F],G,fun q u a g I J=>?_⟩;simp only[zaK,if_neg b,yS,jm,zU,jK];exact⟨e,_,rfl,A.grow g,B.grow g,H q u a g I J⟩
theorem qn4{p:Addr→Prop}{w:World}:∀{l m:List (D×D)}{es c:List MapEntry},zU p w l es→zU p w m c→zU p w (l++m) (es++c)
 |[],m,es,c,h,k=>by simp only[zU]at h;subst h;simpa using k
 |r::l,m,es,c,h,k=>by
  obtain⟨a,b⟩:=r;simp only[zU]at h;obtain⟨e,rest,rfl,f,g,j⟩:=h;simp only[jy,zU];exact⟨e,_,rfl,f,g,qn4 j k⟩
variable{P:Program}{o:Oper}{ρ:Operand→Option D}
theorem qwZ{t:TypeId}{σ:St}(c:o.op= .makeMap t none):zp P o ρ σ fun d' σ'=>∃r,d'= .map r∧σ'= .map r []::σ:=fun K p a w hi h=>by
 have hr:(execOp a.eval o).run P w= .ok (.value (.map (some w.heap.size))) (w.alloc (.map #[] 0)):=by
  unfold execOp;rw[c];simp[Instr.makeMap]
 unfold Oper.wp;rw[hr];refine⟨_,.map w.heap.size,_,p,rfl,⟨w.heap.size,rfl,rfl⟩,by simp only[Rep],?_,qaw hi.pub _⟩;refine(hi.alloc _).more ⟨#[],0,heap_alloc_new w _,by simp only[zU],by simp,by simp,by simp⟩ fun b hb=>?_;simp only[Ob.blk,Option.some.injEq]at hb;subst hb;exact⟨.inl hi.size,fun hm=>by have:=hi.lt hm;omega⟩
theorem qvx{t kt e:TypeId}{x:Operand}{k:IntKind}{n:Int}{σ:St}(c:o.op= .makeMap t (some x))(g:P.underlying t=some (.map kt e))(j:ρ x=some (.int k n)):zp P o ρ σ fun d' σ'=>∃r,d'= .map r∧σ'= .map r []::σ:=fun K p a w hi h=>by
 have f:=h x (by rw[c];simp[Op.operands]) _ j;simp only[Rep]at f;have hr:(execOp a.eval o).run P w= .ok (.value (.map (some w.heap.size))) (w.alloc (.map #[] 0)):=by
  unfold execOp;rw[c];simp[Instr.makeMap,run_underlying g,asInt,asIntOf,f.1]
 unfold Oper.wp;rw[hr];refine⟨_,.map w.heap.size,_,p,rfl,⟨w.heap.size,rfl,rfl⟩,by simp only[Rep],?_,qaw hi.pub _⟩;refine(hi.alloc _).more ⟨#[],0,heap_alloc_new w _,by simp only[zU],by simp,by simp,by simp⟩ fun b hb=>?_;simp only[Ob.blk,Option.some.injEq]at hb;subst hb;exact⟨.inl hi.size,fun hm=>by have:=hi.lt hm;omega⟩
theorem qxf{t kt e:TypeId}{x y:Operand}{key:α→D}{vk:α→Value}{d:Value→Prop}{r:Nat}{l:List (α×D)}{a0:α}{z:D}{c:Value}{σ:St}(f:o.op= .lookup t x y true)(E:P.underlying t=some (.map kt e))(hK:yO P kt key vk d)(I:(P.info? e).map (·.zero)=some (some c))(g:∀p w,Rep p w z c)(J:ρ x=some (.map r))(hy:ρ y=some (key a0))(L: .map r (yS key l)∈σ):
 zp P o ρ σ fun d' σ'=>d'= .tup [(yz l a0).getD z,.bool (yz l a0).isSome]∧σ'=σ:=fun K p a w hi h=>by
 have m:=h x (by rw[f];simp[Op.operands]) _ J;have n:=hK.rep _ _ _ _ (h y (by rw[f];simp[Op.operands]) _ hy);have b:d (vk a0):=n▸hK.good _ _ _ _ (h y (by rw[f];simp[Op.operands]) _ hy);simp only[Rep]at m;obtain⟨es,clock,F,q,_⟩:=hi.ok _ L;obtain⟨i,u,v⟩:=jC.1 I;have G:=hK.check w es.isEmpty (vk a0) b;rcases qia hK p w a0 z l es.toList 0 q with⟨A,H,_⟩|⟨j,B,O,A,H,Q,M,N,_⟩
 · have C:=(hK.find w (vk a0) es.toList b (qeU hK q)).trans (by rw[A])
   have hr:(execOp a.eval o).run P w= .ok (.value (.tuple #[c,.bool false])) w:=by
    unfold execOp;rw[f];simp[m,n,Instr.lookup,run_underlying E,MapKept.run_getObj_map F,G,C,zeroValue,typeInfo,u,v]
   unfold Oper.wp;rw[hr];refine⟨_,_,_,p,rfl,⟨rfl,rfl⟩,?_,hi,zE.refl _ _⟩;rw[H];simp only[Rep,zB,Option.getD_none,Option.isSome_none];exact⟨[c,.bool false],rfl,c,_,rfl,g p w,.bool false,[],rfl,rfl,rfl⟩
 · have C:=(hK.find w (vk a0) es.toList b (qeU hK q)).trans (by rw[A])
   have hr:(execOp a.eval o).run P w= .ok (.value (.tuple #[B.val,.bool true])) w:=by
    unfold execOp;rw[f];simp[m,n,Instr.lookup,run_underlying E,MapKept.run_getObj_map F,G,C]
   unfold Oper.wp;rw[hr];refine⟨_,_,_,p,rfl,⟨rfl,rfl⟩,?_,hi,zE.refl _ _⟩;rw[M];simp only[Rep,zB,JC,Option.isSome_some];exact⟨[B.val,.bool true],rfl,B.val,_,rfl,N,.bool true,[],rfl,rfl,rfl⟩
theorem qs6{t kt e:TypeId}{x y v:Operand}{key:α→D}{vk:α→Value}{d:Value→Prop}{r:Nat}{l:List (α×D)}{a0:α}{dn H:D}{σ:St}(τ:St)(J:o.op= .mapUpdate t x y v)(ht:P.underlying t=some (.map kt e))(hK:yO P kt key vk d)(R:ρ x=some (.map r))(hy:ρ y=some (key a0))(hv:ρ v=some dn)(hw:Wk dn H)(hσ:σ.Perm (.map r (yS key l)::τ))(hlen:l.length<9223372036854775807):
 zp P o ρ σ fun _ σ'=>σ'= .map r (yS key (zaK l a0 H))::τ:=fun K p a w hi h=>by
 have S:=h x (by rw[J];simp[Op.operands]) _ R;have C:=h y (by rw[J];simp[Op.operands]) _ hy;have L:=hK.rep _ _ _ _ C;have m:d (vk a0):=L▸hK.good _ _ _ _ C;have h3:=hw _ _ _ (h v (by rw[J];simp[Op.operands]) _ hv);simp only[Rep]at S;have M:=hi.perm hσ;obtain⟨es,clock,F,N,g3,gn,gl⟩:=M.ok _ (je ..);have hc:=hK.check w false (vk a0) m;have hlt:r<w.heap.size:=(jL.1 F).1;have fin:∀(f:Array MapEntry)(c:Nat),(f.toList.map (·.born)).Nodup→(∀e∈f.toList,e.born<c)→(∀(q:Addr→Prop)(u:World),zE p w q u→zU q u (yS key (zaK l a0 H)) f.toList)→
  ∃G,Inv K G (.map r (yS key (zaK l a0 H))::τ) {w with heap:=w.heap.setIfInBounds r (.map f c)}∧zE p w G {w with heap:=w.heap.setIfInBounds r (.map f c)}∧G=p:=fun f c U V hr=>by
  have z:=MapKept.heap_set (o':=.map f c) F;have A:∀B,p B→({w with heap:=w.heap.setIfInBounds r (.map f c)}:World).cell? B=w.cell? B:=fun B E=>qdy (z.2 _ (by
   intro e;obtain⟨u,hu⟩:=hi.pub B E;unfold World.cell? at hu;rw[e,F]at hu;cases hu))
  have gr:zE p w p {w with heap:=w.heap.setIfInBounds r (.map f c)}:=fun B E=>⟨E,A B E⟩
  refine⟨p,M.write (b:=r) rfl rfl gr (fun B E=>.inl E) ⟨f,c,z.1,hr _ _ gr,?_,U,V⟩ (fun B E=>?_) rfl rfl rfl og fun k hk=>z.2 k hk,gr,rfl⟩
  · have:=qqr l a0 H
    simp only[jh];omega
  · obtain⟨u,hu⟩:=hi.pub B E
    exact⟨u,by rw[A B E];exact hu⟩
 rcases qia hK p w a0 H l es.toList 0 N with⟨W,I,X⟩|⟨j,O,dv,W,I,X,q4,q5,q6⟩
 · have Q:=(hK.find w (vk a0) es.toList m (qeU hK N)).trans (by rw[W])
   have hr:(execOp a.eval o).run P w= .ok .skip {w with heap:=w.heap.setIfInBounds r (.map (es.push {key:=vk a0,val:=a.eval v,born:=clock}) (clock+1))}:=by
    unfold execOp;rw[J];simp[S,L,Instr.mapUpdate,run_underlying ht,MapKept.run_getObj_map F,hc,Q,MapKept.run_setObj_map _ F]
   unfold Oper.wp;rw[hr];obtain⟨G,f1,f2,rfl⟩:=fin (es.push {key:=vk a0,val:=a.eval v,born:=clock}) (clock+1) (by
    rw[vW,jJ];refine jT.2 ⟨gn,by simp,fun x R y hy hxy=>?_⟩;obtain⟨e,he,rfl⟩:=jt.1 R;simp only[jm,jU,jr]at hy;have:=gl e he;omega) (by
    intro e he;rw[vW]at he;rcases jl.1 he with he|he
    have:=gl e he;omega;rw[jr.1 he];exact Nat.lt_succ_self _) fun q u g=>by
    rw[X,vW,yS,jJ];refine qn4 (N.grow g) ?_;simp only[jm,jU,zU];exact⟨_,[],rfl,L▸C.grow g,h3.grow g,rfl⟩
   exact⟨Go.undef,.undef,_,G,rfl,rfl,by simp only[Rep],f1,f2⟩
 · have Q:=(hK.find w (vk a0) es.toList m (qeU hK N)).trans (by rw[W])
   rw[jc]at Q;have Y:(Instr.keyThatStays (((es[j]?).map (·.key)).getD (vk a0)) (vk a0)).run P w= .ok (vk a0) w:=by
    have:es[j]? =some O:=by simpa using I
    rw[this];simp only[Jf,JC,X];exact hK.stays w _ m
   have hr:(execOp a.eval o).run P w= .ok .skip {w with heap:=w.heap.setIfInBounds r (.map (es.modify j fun e=>{e with key:=vk a0,val:=a.eval v}) clock)}:=by
    unfold execOp;rw[J];simp[S,L,Instr.mapUpdate,run_underlying ht,MapKept.run_getObj_map F,hc,Q,Y,MapKept.run_setObj_map _ F]
   unfold Oper.wp;rw[hr];have hm:(es.modify j fun e=>{e with key:=vk a0,val:=a.eval v}).toList=es.toList.set j {O with key:=vk a0,val:=a.eval v}:=by
    apply List.ext_getElem?;intro k;rw[vc,JU,vA,vc];have Z:=(jd.1 I).1;by_cases n:j=k;subst n;rw[if_pos rfl,if_pos rfl,if_pos Z];have:es[j]? =some O:=by simpa using I
    rw[this];rfl;rw[if_neg n,if_neg n]
   have hb:(es.toList.set j {O with key:=vk a0,val:=a.eval v}).map (·.born)=es.toList.map (·.born):=by
    apply List.ext_getElem?;intro k;rw[vq,vA,vq];have Z:=(jd.1 I).1;by_cases n:j=k;subst n;rw[if_pos rfl,if_pos Z,I];rfl;rw[if_neg n]
   obtain⟨G,f1,f2,rfl⟩:=fin (es.modify j fun e=>{e with key:=vk a0,val:=a.eval v}) clock (by rw[hm,hb];exact gn) (by
    intro e he;have h5:e.born∈es.toList.map (·.born):=by rw[←hb,←hm];exact jM he
    obtain⟨e2,h6,h7⟩:=jt.1 h5;rw[←h7];exact gl e2 h6) fun q u g=>by
    rw[hm];exact q6 q u _ g (L▸C.grow g) (h3.grow g)
   exact⟨Go.undef,.undef,_,G,rfl,rfl,by simp only[Rep],f1,f2⟩
end
def zaE(u:Value):Nat:=u.ownBlock.getD 0
theorem qiB{p:Addr→Prop}{w:World}{u:Value}{l:List D}{e:TypeId}{s:Nat}(h:zbb p w (.vec u l e s))(hl:l≠[]):
 ∃g cap xs junk,u= .slice (some ⟨g,0,none⟩) l.length cap∧zj p w l xs∧(∀x∈xs,x.oneCell'=true)∧w.heap[g]? =some (.cells (xs++junk).toArray e (0,0))∧(∀a,p a→a.block≠g)∧l.length≤cap∧cap≤maxLen∧(xs++junk).length=cap*s:=by
 obtain⟨z,A,⟨xs,⟨B,b⟩,f,j⟩,m⟩:=h;rcases b with⟨_,b⟩|⟨g,cap,cur,rfl,_,n,q,r,t,v⟩
 · exact absurd (jG b) hl
 · have c:xs++cur.toList.drop (l.length*s)=cur.toList:=by rw[←v,j7]
   exact⟨g,cap,xs,cur.toList.drop (l.length*s),rfl,f,j,by rw[c];simpa using n,m g rfl,q,r,by rw[c];simpa using t⟩
section
variable{P:Program}{o:Oper}{ρ:Operand→Option D}{d:D}
theorem qyS{e:TypeId}{s:Nat}{σ:St}(f:0<s)(c:o.op= .assign (.const (.slice none 0 0))∨o.op= .move (.const (.slice none 0 0))):zp P o ρ σ fun d' σ'=>∃u,d'= .vec u 0∧σ'= .vec u [] e s::σ:=fun K p a w hi h=>by
 have hr:(execOp a.eval o).run P w= .ok (.value (.slice none 0 0)) w:=by
  unfold execOp;rcases c with c|c<;>rw[c]<;>rfl
 unfold Oper.wp;rw[hr];refine⟨_,.vec (.slice none 0 0) 0,_,p,rfl,⟨_,rfl,rfl⟩,by simp only[Rep];exact⟨trivial,none,0,rfl,by omega,by omega⟩,hi.more (o:=.vec (.slice none 0 0) [] e s) ⟨zx.nil s,f,⟨[],World.ownsRow_nil w 0 e s,zj.nil _ _,by simp⟩,fun g j=>by simp[Value.ownBlock]at j⟩ (fun b hb=>by simp[Ob.blk,Value.ownBlock]at hb),zE.refl p w⟩
theorem qnw{x:Operand}{t e:TypeId}{u:Value}{n:Nat}(f:o.op= .call {callee:=.builtin .len,args:=#[x],argTypes:=#[t]})(g:P.underlying t=some (.slice e))(j:ρ x=some (.vec u n)):zi P o ρ (.int .i64 (n:Int)):=qM fun p a w h=>by
 have b:=h x (by rw[f];simp[Op.operands,Call.operands]) _ j;simp only[Rep]at b;obtain⟨b,A,c,rfl,l,m⟩:=b;refine⟨.int .i64 (n:Int),?_,by simpa only[Rep,true_and]using wrap64 oa⟩;unfold execOp;rw[f];simp[resolve,invoke,builtin,b,Builtin.len_,run_underlying g,goInt]
theorem qvl{t e:TypeId}{x ix:Operand}{s by_ n:Nat}{u:Value}{k:IntKind}{m:Int}{σ:St}{l:List D}(j:Nat)(f:o.op= .indexAddr t x ix)(E:ElT P t e s by_)(G:ρ x=some (.vec u n))(q:ρ ix=some (.int k m))(hm:m=(j:Int))(r:j<l.length)(H: .vec u l e s∈σ):zp P o ρ σ fun d' σ'=>d'= .mref (zaE u) j s 0 []∧σ'=σ:=fun K p a w hi h=>by
 have v:l≠[]:=fun e=>by rw[e]at r;simp at r
 obtain⟨g,cap,xs,junk,rfl,I,J,L,M,N,O,Q⟩:=qiB (hi.ok _ H) v;have b:=h x (by rw[f];simp[Op.operands]) _ G;have hn:n=l.length:=by
  simp only[Rep]at b;obtain⟨_,A,c,z,_⟩:=b;injection z with _ z
  exact z.symm
 have F:=h ix (by rw[f];simp[Op.operands]) _ q;simp only[Rep]at b F;obtain⟨b,_⟩:=b;subst hm hn;obtain⟨i,B,C⟩:=jC.1 E.size;have hr:(execOp a.eval o).run P w= .ok (.value (.pointer (some ⟨g,j*s+0,none⟩))) w:=by
  unfold execOp;rw[f];simp[b,F.1,Instr.indexAt,asIntOf,run_underlying E.1,sizeOf,typeInfo,B,C,r,zan]
 unfold Oper.wp;rw[hr];exact⟨_,.mref g j s 0 [],σ,p,rfl,⟨rfl,rfl⟩,by simp only[Rep],hi,zE.refl p w⟩
theorem qqz{x y:Operand}{t e:TypeId}{s by_ n:Nat}{σ τ:St}{u:Value}{l m:List D}{dy:D}(ho:o.op= .call {callee:=.builtin .append,args:=#[x,y],argTypes:=#[t,t]})(hE:ElT P t e s by_)(Y:ρ x=some (.vec u n))(hy:ρ y=some dy)(hm:AsL dy m)(hσ:σ.Perm (.vec u l e s::τ))(Z:zx s m)(hb:(l.length+m.length)*by_≤140737488355328)(h63:l.length+m.length≤9223372036854775807):
 zp P o ρ σ fun d' σ'=>∃J,d'= .vec J (l++m).length∧σ'= .vec J (l++m) e s::τ:=fun K p a w hi h=>by
 rw[ja];obtain⟨hu,⟨z,hz,hzs⟩,Q⟩:=hE;obtain⟨i,H,hz',R,hby⟩:=info_parts hz;have G:=hi.perm hσ;have hxv:=h x (by rw[ho];simp[Op.operands,Call.operands]) _ Y;simp only[Rep]at hxv;obtain⟨hvu,_⟩:=hxv;have hob:=G.ok _ (je ..);obtain⟨hl,_,⟨xs,⟨S,E⟩,k6,k7⟩,k9⟩:=hob;obtain⟨A,c,ys,g1,g2,g3,g4,g5,g6⟩:=hm.rep (h y (by rw[ho];simp[Op.operands,Call.operands]) _ hy);have q:ys.length=m.length*s:=by rw[g5.len,Z.szs]
 have hlm:zx s (l++m):=fun d hd=>(jl.1 hd).elim (hl d) (Z d);have C:∀r,(Builtin.append_ #[t,t] o.type #[u,.slice A m.length c]).run P w=r→(execOp a.eval o).run P w=r.andThen fun v w'=>.ok (.value v) w':=fun r hr=>by
  subst hr;unfold execOp;simp only[ho,resolve,invoke,builtin,Sem.run_bind,Sem.run_pure,Result.andThen_ok,vF,jm,jU,hvu,g1]
 have hmx:maxLen=9223372036854775807:=rfl
 -- where nothing is appended
 by_cases U:m.length=0
 · have hm0':m=[]:=jG U
   subst hm0';have L:ys=[]:=jG (by simpa using q);have hrep:Rep p w (.vec u l.length) u:=by
    simp only[Rep];refine⟨trivial,?_⟩;rcases E with⟨rfl,h0⟩|⟨g,cap,cur,rfl,_,k1,k2,k3,_⟩
    exact⟨none,0,by rw[h0],by omega,by omega⟩;exact⟨_,cap,rfl,k2,by omega⟩
   have hr:(Builtin.append_ #[t,t] o.type #[u,.slice A 0 c]).run P w= .ok u w:=by
    rcases E with⟨rfl,_⟩|⟨g,cap,cur,rfl,_,k1,k2,_⟩
    cases A<;>simp[Builtin.append_,run_underlying hu,sizeOf,typeInfo,H,Builtin.lenOf,Builtin.firstCells,loadCells,loadCellsFrom]
    cases A<;>simp[Builtin.append_,run_underlying hu,sizeOf,typeInfo,H,Builtin.lenOf,Builtin.firstCells,loadCells,loadCellsFrom,k2,storeCells]
   unfold Oper.wp;rw[C _ hr];exact⟨u,.vec u (l.length+0),_,p,rfl,⟨u,rfl,rfl⟩,hrep,by simpa using G,zE.refl p w⟩
 -- the cells that are appended
 · have L:ys≠[]:=fun L=>by
    rw[L]at q;have:=j6 (vU U) Q;simp at q;omega
   rcases g4 with g4|⟨b,o',rfl,V⟩
   · exact absurd g4 L
   have F:∀j v,ys[j]? =some v→w.cell? ((⟨b,o',none⟩:Addr).add j)=some v:=fun j v M=>by rw[zan];exact(V j v M).2
   subst R;subst hby;have grown:∀(f:Nat),f<l.length+m.length→
    ∃J,J= .slice (some ⟨w.heap.size,0,none⟩) (l.length+m.length) (grownCap w (l.length+m.length) f e)∧Rep p (w.drew.alloc (.cells (xs.toArray++ys.toArray++Builtin.zeroCells z.cells (grownCap w (l.length+m.length) f e-(l.length+m.length))) e)) (.vec J (l.length+m.length)) J∧Inv K p (.vec J (l++m) e i.size::τ) (w.drew.alloc (.cells (xs.toArray++ys.toArray++Builtin.zeroCells z.cells (grownCap w (l.length+m.length) f e-(l.length+m.length))) e))∧
     zE p w p (w.drew.alloc (.cells (xs.toArray++ys.toArray++Builtin.zeroCells z.cells (grownCap w (l.length+m.length) f e-(l.length+m.length))) e)):=fun f hold=>by
    have hge:=grownCap_ge w (l.length+m.length) f e;have hcm:grownCap w (l.length+m.length) f e≤maxLen:=grownCap_le_maxLen w (l.length+m.length) f e (by unfold maxLen;omega);have hlen:(xs++ys).length=(l.length+m.length)*i.size:=by rw[ja,S,q,jE]
    have hs1:(xs.toArray++ys.toArray++Builtin.zeroCells z.cells (grownCap w (l.length+m.length) f e-(l.length+m.length))).size=grownCap w (l.length+m.length) f e*i.size:=by
     simp only[Jc,jV,size_zeroCells,hzs,S,q,←jE];congr 1
     omega
    have ht1:(xs.toArray++ys.toArray++Builtin.zeroCells z.cells (grownCap w (l.length+m.length) f e-(l.length+m.length))).toList.take ((l.length+m.length)*i.size)=xs++ys:=by
     simp only[Jd,jo];rw[←jo,←hlen];exact vK
    generalize xs.toArray++ys.toArray++Builtin.zeroCells z.cells (grownCap w (l.length+m.length) f e-(l.length+m.length))=cur at hs1 ht1⊢;have gr:zE p w p (w.drew.alloc (.cells cur e)):=(qdu p w).tr (qaw G.tail.drew.pub _);refine⟨_,rfl,?_,?_,gr⟩
    · simp only[Rep]
      exact⟨trivial,_,_,rfl,hge,by omega⟩
    · refine(G.tail.drew.alloc (.cells cur e)).more ⟨hlm,Q,⟨xs++ys,⟨by rw[hlen,ja],.inr ⟨w.heap.size,_,cur,by rw[ja],ju _,heap_alloc_new w.drew _,by rw[ja];exact hge,hcm,hs1,by rw[ja];exact ht1⟩⟩,(k6.app g5).grow gr,fun x Y=>(jl.1 Y).elim (k7 x) (g6 x)⟩,fun g hg a I hab=>?_⟩ fun b hb=>?_
      · simp only[Value.ownBlock,Option.some.injEq]at hg
        have hg:w.heap.size=g:=hg;obtain⟨v,M⟩:=hi.pub a I;have:=qfs M;omega
      · simp only[Ob.blk,Value.ownBlock,Option.some.injEq]at hb
        have hb:w.heap.size=b:=hb;subst hb;exact⟨.inl hi.size,fun hm=>by have:=G.tail.lt hm;omega⟩
   have hmpos:0<m.length:=vU U;rcases E with⟨rfl,h0⟩|⟨g,cap,cur,rfl,_,k1,k2,k3,k4,k5⟩
   · obtain rfl:=jG h0
     obtain rfl:xs=[]:=jG (by simpa using S);have hr:=run_append_nil (P:=P) w t o.type e i z hu H hz' ⟨b,o',none⟩ m.length c ys q F oa oa (by have hb:=hb;simp only[ji,jc]at hb;omega);obtain⟨J,N,q1,q2,q3⟩:=grown 0 oe;simp only[ji,jc,Array.empty_append,jq]at hr q1 q2 q3 N⊢;unfold Oper.wp;rw[C _ hr];subst N;exact⟨_,_,_,p,rfl,⟨_,rfl,rfl⟩,q1,q2,q3⟩
   · by_cases B:l.length+m.length≤cap
     · have hfit:l.length*i.size+ys.length≤cur.size:=by rw[q,k4,←jE];exact jH _ B
       have hr:=run_append_room (P:=P) w t o.type e i hu H g l.length cap cur k1 ⟨b,o',none⟩ m.length c ys q F g6 B hfit;unfold Oper.wp;rw[C _ hr];generalize O:(cur.toList.take (l.length*i.size)++ys++cur.toList.drop (l.length*i.size+ys.length))=new;have hh:=setRow_heap w g cur new.toArray e (0,0) k1;have htl:(cur.toList.take (l.length*i.size)).length=l.length*i.size:=by rw[k5,S]
       have W:new.take ((l.length+m.length)*i.size)=xs++ys:=by
        rw[←O,k5];have:(xs++ys).length=(l.length+m.length)*i.size:=by rw[ja,S,q,jE]
        rw[←this];exact vK
       have gr:zE p w p (w.setRow g new.toArray):=fun X I=>⟨I,qdy (setRow_other w g _ _ (k9 g rfl X I))⟩
       have hle:(l.length+m.length)*i.size≤cap*i.size:=jH _ B;have hnl:new.length=cap*i.size:=by
        rw[←O];simp only[ja,j4,htl,q,j8,k4];rw[jE]at hle;omega
       refine⟨.slice (some ⟨g,0,none⟩) (l.length+m.length) cap,.vec (.slice (some ⟨g,0,none⟩) (l.length+m.length) cap) (l.length+m.length),_,p,rfl,⟨_,rfl,rfl⟩,?_,?_,gr⟩
       · simp only[Rep]
         exact⟨trivial,_,cap,rfl,B,by omega⟩
       · refine G.write (b:=g) rfl rfl gr (fun X I=>.inl I) ⟨hlm,Q,⟨xs++ys,⟨by rw[ja,ja,S,q,jE],.inr ⟨g,cap,new.toArray,by rw[ja],ju _,hh,by rw[ja];exact B,k3,by simpa using hnl,by rw[ja];simpa using W⟩⟩,(k6.app g5).grow gr,fun x Y=>(jl.1 Y).elim (k7 x) (g6 x)⟩,fun g' hg' X I hab=>k9 g rfl X I (by simp only[Value.ownBlock,Option.some.injEq]at hg';exact hab.trans hg'.symm)⟩ (fun X I=>?_) rfl rfl rfl og fun k hk=>setRow_other w g k _ hk
         obtain⟨v,M⟩:=hi.pub X I;exact⟨v,by rw[(gr X I).2];exact M⟩
     · have holds:∀j v,xs[j]? =some v→w.cell? ((⟨g,0,none⟩:Addr).add j)=some v:=fun j v M=>by
        rw[zan,jc,cell_of_row _ _ _ _ _ _ k1];have hj:=(jd.1 M).1;rw[←k5,jZ,if_pos oa]at M;simpa using M
       have hr:=run_append_grow (P:=P) w t o.type e i z hu H hz' ⟨g,0,none⟩ l.length cap xs S holds ⟨b,o',none⟩ m.length c ys q F oa oa (growslice_fits oa hb);obtain⟨J,N,q1,q2,q3⟩:=grown cap oa;unfold Oper.wp;rw[C _ hr];subst N;exact⟨_,_,_,p,rfl,⟨_,rfl,rfl⟩,q1,q2,q3⟩
theorem qz4{t e:TypeId}{x:Operand}{n i s off:Nat}{u:Value}{path:List Nat}{σ:St}{l:List D}{d0:D}(z:o.op= .load t x)(E:ρ x=some (.mref (zaE u) i s off path))(A: .vec u l e s∈σ)(hl:l[i]? =some d0)(hs:zai d0 path=some d)(c:yT d0 path=off)(F:Ty P t d.isAgg n)(hn:sz d=n):zp P o ρ σ fun d' σ'=>d'=d∧σ'=σ:=fun K p a w hi h=>by
 have B:=h x (by rw[z];simp[Op.operands]) _ E;simp only[Rep]at B;obtain⟨g,cap,xs,junk,rfl,G,L,H,M,_⟩:=qiB (hi.ok _ A) (fun h=>by rw[h]at hl;simp at hl);have I:zx s l:=(hi.ok _ A).1;obtain⟨v0,q,f⟩:=G.at_cell hl;obtain⟨v,C,J⟩:=qjR q hs;have m:(l.take i).length=i:=by have:=(jd.1 hl).1;simp;omega
 rw[(I.take i).szs,m]at f;have r:=qfT (P:=P) (b:=g) (o:=i*s+off) F hn C (fun j y hy=>by
  rw[cell_of_row _ _ _ _ _ _ H,←c];have:=f _ y (J j y hy);have hlt:=(jd.1 this).1;simp only[vD];rw[jS,j3 hlt];exact this)
 have hr:(execOp a.eval o).run P w= .ok (.value v) w:=by
  unfold execOp;rw[z];simp[B,zaE,Value.ownBlock,Instr.loadAt,Instr.sureAddr,r]
 unfold Oper.wp;rw[hr];exact⟨v,d,σ,p,rfl,⟨rfl,rfl⟩,C,hi,zE.refl p w⟩
theorem qyA{t e:TypeId}{x y:Operand}{n i s off:Nat}{u:Value}{path:List Nat}{σ:St}(τ:St){l:List D}{d0 r dn:D}{ag:Bool}(S:o.op= .store t x y)(hx:ρ x=some (.mref (zaE u) i s off path))(hy:ρ y=some dn)(hw:Wk dn d)(hσ:σ.Perm (.vec u l e s::τ))(hl:l[i]? =some d0)(U:d0.plain=true)(hs:zai d0 path=some r)(m:yT d0 path=off)(ht:Ty P t ag n)(hn:sz d=n)(V:sz r=n)(hp:d.plain=true):zp P o ρ σ fun _ σ'=>σ'= .vec u (l.set i (zaF d0 path d)) e s::τ:=fun K p a w hi h=>by
 have h1:=h x (by rw[S];simp[Op.operands]) _ hx;simp only[Rep]at h1;have W:=hw _ _ _ (h y (by rw[S];simp[Op.operands]) _ hy);have F:=hi.perm hσ;have G:=F.ok _ (je ..);obtain⟨b,cap,xs,junk,rfl,X,g4,g5,g6,c1,c2,c3⟩:=qiB G (fun h=>by rw[h]at hl;simp at hl);obtain⟨H,g0,_,_⟩:=G;obtain⟨ii,Y,Z⟩:=jC.1 ht.2;have v:(a.eval y).cells.size=n:=by rw[Rep.sz W,hn]
 have hil:=(jd.1 hl).1;have I:(l.take i).length=i:=by simp;omega
 obtain⟨v0,J,c,f⟩:=X.at_ hl;obtain⟨Q,q1,q2,q3,q4,R⟩:=qna J hs (by rw[hn,V]) W hp U;have j:=zj.set X hl R q1;rw[(H.take i).szs,I]at c f j;have g:sz d0=s:=H d0 (List.mem_of_getElem? hl);have hv0l:v0.cells.toList.length=s:=by rw[←g];simpa using Rep.sz J
 have hxl:xs.length=l.length*s:=by rw[X.len,H.szs]
 have hle:(i+1)*s≤l.length*s:=jH s oa;rw[jE,vx]at hle;have L:=run_storeCells_at (P:=P) b (i*s+off) e (a.eval y).cells.toList 0 (xs++junk).toArray w g5 (by
  simp only[j8,v,vh,jV,ja];rw[g,hn,m]at q4;omega) (Rep.one W hp)
 have M:((xs++junk).toArray.toList.take (i*s+off+0)++(a.eval y).cells.toList++(xs++junk).toArray.toList.drop (i*s+off+0+(a.eval y).cells.toList.length)).toArray=((xs.take (i*s)++Q.cells.toList++xs.drop (i*s+s))++junk).toArray:=by
  congr 1
  simp only[vh,j8,v,←hn];rw[q3,m];rw[g,m]at q4;generalize hA:xs.take (i*s)=A at c f⊢;generalize hB:xs.drop (i*s+s)=B;rw[g,hB]at c;rw[c];have e1:(A++v0.cells.toList++B++junk).take (i*s+off)=A++v0.cells.toList.take off:=by
   rw[←f,jo,jo,v7,Jn oa]
  have e2:(A++v0.cells.toList++B++junk).drop (i*s+off+sz d)=v0.cells.toList.drop (off+sz d)++(B++junk):=by
   rw[←f,jo,jo,jS,Ja,JE oa]
  rw[e1,e2];simp only[jo]
 rw[M]at L;have hr:(execOp a.eval o).run P w= .ok .skip (w.setRow b ((xs.take (i*s)++Q.cells.toList++xs.drop (i*s+s))++junk).toArray):=by
  unfold execOp;rw[S];simp only[h1,zaE,Value.ownBlock,JC,Instr.storeAt,Instr.sureAddr,storeVar,Sem.run_bind,Sem.run_pure,Result.andThen_ok,sizeOf,typeInfo,run_program,Y,v,Z,ne_eq,not_true_eq_false,if_false,L]
 have gr:zE p w p (w.setRow b ((xs.take (i*s)++Q.cells.toList++xs.drop (i*s+s))++junk).toArray):=fun z q=>⟨q,qdy (setRow_other w b _ _ (g6 z q))⟩
 unfold Oper.wp;rw[hr];refine⟨Go.undef,.undef,_,p,rfl,rfl,by simp only[Rep],?_,gr⟩;rw[R,g]at j;have C:(xs.take (i*s)++Q.cells.toList++xs.drop (i*s+s)).length=l.length*s:=by
  have e3:=j.len;rw[e3];have N:zx s (l.set i (zaF d0 path d)):=fun e' E=>by
   rcases J1 E with h|rfl
   exact H e' h;rw[R,g]
  rw[N.szs];simp
 refine F.write (b:=b) rfl rfl gr (fun z q=>.inl q) ⟨fun e' E=>?_,g0,⟨_,⟨by rw[C];simp,.inr ⟨b,cap,_,by simp,ju _,setRow_heap w b _ _ _ _ g5,by simpa using c1,c2,?_,?_⟩⟩,j.grow gr,fun u hu=>?_⟩,fun g' O z q hab=>g6 z q (by simp only[Value.ownBlock,Option.some.injEq]at O;exact hab.trans O.symm)⟩ (fun z q=>?_) rfl rfl rfl og fun k hk=>setRow_other w b k _ hk;rcases J1 E with h|rfl
 exact H e' h;rw[R,g];rw[jV,ja,C,←hxl,←ja,c3];simp only[vT];rw[←C];exact vK;rcases jl.1 hu with hu|hu
 rcases jl.1 hu with hu|hu
 exact g4 u (j9 hu);exact Rep.one q1 q2 u hu;exact g4 u (vy hu);obtain⟨u,hu⟩:=hi.pub z q;exact⟨u,by rw[(gr z q).2];exact hu⟩
end
section
variable{P:Program}{f:FuncId}{fn:Func}{K:Ctx}{R:D→St→Prop}{k:List Item}{env:Env}{σ τ:St}
theorem qyD{m:Md}(e:TypeId)(s:Nat)(c:0<s)(h:ze m P f fn K R k env (.vec (.slice none 0 0) ([]:List D) e s::σ)):ze m P f fn K R k env σ:=fun p a w hi=>
 h p a w (hi.more (o:=.vec (.slice none 0 0) [] e s) ⟨zx.nil s,c,⟨[],World.ownsRow_nil w 0 e s,zj.nil _ _,by simp⟩,fun g j=>by simp[Value.ownBlock]at j⟩ (fun b hb=>by simp[Ob.blk,Value.ownBlock]at hb))
end
theorem zci{ds:List D}(h:ds.all D.plain=true):∀d∈ds,d.plain=true:=fun d hd=>jD.1 h d hd
theorem qAh{m:Md}{P:Program}{X:Env→D→St→Prop}{f:FuncId}{fn:Func}{K:Ctx}{R:D→St→Prop}{k:List Item}{env:Env}{σ:St}{l:List Oper}{rest:List (Nat×Cls)}(s:Nat)(v:Bool){b:Bool}(hs:lk env s=some (.bool b))(hb:b=v)(h:Run P l.toArray X (ze m P f fn K R k) rest ((s,.bool v)::env) σ):Run P l.toArray X (ze m P f fn K R k) rest env σ:=by
 subst hb;cases b with
 |true=>exact qgm s hs (fun _=>h) fun a=>by cases a
 |false=>exact qgm s hs (fun a=>by cases a) fun _=>h
theorem qa7{m:Md}{P:Program}{f:FuncId}{fn:Func}{K:Ctx}{R:D→St→Prop}{k:List Item}{env:Env}{σ:St}(s:Nat)(v:Bool){b:Bool}(hs:lk env s=some (.bool b))(hb:b=v)(h:ze m P f fn K R k ((s,.bool v)::env) σ):ze m P f fn K R k env σ:=by
 subst hb;cases b with
 |true=>exact qbB s hs (fun _=>h) fun a=>by cases a
 |false=>exact qbB s hs (fun a=>by cases a) fun _=>h
theorem qS{m:Md}{P:Program}{f:FuncId}{fn:Func}{K:Ctx}{R:D→St→Prop}{k:List Item}{env:Env}{σ:St}{c:Operand}{x y:Code}(a:ev env c=some (.bool true))(h:ze m P f fn K R (.code x::k) env σ):ze m P f fn K R (.code (.cond c x y)::k) env σ:=by
 cases c with
 |tmp t=>exact quy a rfl (fun _=>h) fun h=>by cases h
 |const v=>exact quy a (by cases v<;>first|rfl|(simp[ev,za6]at a)) (fun _=>h) fun h=>by cases h
 |global g=>cases a
 |func f=>cases a
theorem qL{m:Md}{P:Program}{f:FuncId}{fn:Func}{K:Ctx}{R:D→St→Prop}{k:List Item}{env:Env}{σ:St}{c:Operand}{x y:Code}(a:ev env c=some (.bool false))(h:ze m P f fn K R (.code y::k) env σ):ze m P f fn K R (.code (.cond c x y)::k) env σ:=by
 cases c with
 |tmp t=>exact quy a rfl (fun h=>by cases h) fun _=>h
 |const v=>exact quy a (by cases v<;>first|rfl|(simp[ev,za6]at a)) (fun h=>by cases h) fun _=>h
 |global g=>cases a
 |func f=>cases a
theorem qgp:Ty prog 3 false 1:=⟨⟨_,underlying3,rfl⟩,by kernel_rfl⟩
theorem qlA:Ty prog 9 false 1:=⟨⟨_,underlying9,rfl⟩,by kernel_rfl⟩
theorem qer:ElT prog 33 83 3 48:=.of underlying33 ob od
theorem qip:Ty prog 62 false 1:=⟨⟨_,underlying62,rfl⟩,by kernel_rfl⟩
theorem qil:ElT prog 62 77 4 56:=.of underlying62 ob od
theorem qnT:Ty prog 81 true 2:=⟨⟨_,underlying81,rfl⟩,by kernel_rfl⟩
theorem qp1:Fld prog 81 0 0:=⟨_,_,1,underlying81,rfl,rfl,by kernel_rfl,by decide⟩
theorem qpO:Fld prog 81 1 1:=⟨_,_,1,underlying81,rfl,rfl,by kernel_rfl,by decide⟩
theorem qsY:yB prog 81 [.str ⟨#[]⟩,.lst []]:=.mk rfl ob underlying81 ob
theorem qsN:yv prog 81 (.agg [.str ⟨#[]⟩,.lst []]):=.agg qsY
theorem qqF:Fld prog 83 0 0:=⟨_,_,1,underlying83,rfl,rfl,by kernel_rfl,by decide⟩
theorem qpz:Fld prog 83 1 1:=⟨_,_,2,underlying83,rfl,rfl,by kernel_rfl,by decide⟩
theorem qtg:yB prog 83 [.int .i64 0,.agg [.str ⟨#[]⟩,.lst []]]:=.mk rfl ob underlying83 ob
theorem qtx:yv prog 83 (.agg [.int .i64 0,.agg [.str ⟨#[]⟩,.lst []]]):=.agg qtg
theorem qdo:Ty prog 43 false 1:=⟨⟨_,underlying43,rfl⟩,by kernel_rfl⟩
theorem qfK:ElT prog 87 3 1 8:=.of underlying87 ob od
theorem qog:Ty prog 77 true 4:=⟨⟨_,underlying77,rfl⟩,by kernel_rfl⟩
theorem qfG:Fld prog 77 0 0:=⟨_,_,1,underlying77,rfl,rfl,by kernel_rfl,by decide⟩
theorem qlo:Fld prog 77 1 1:=⟨_,_,1,underlying77,rfl,rfl,by kernel_rfl,by decide⟩
theorem qlr:Fld prog 77 2 2:=⟨_,_,1,underlying77,rfl,rfl,by kernel_rfl,by decide⟩
theorem qlp:Fld prog 77 3 3:=⟨_,_,1,underlying77,rfl,rfl,by kernel_rfl,by decide⟩
theorem qp7:Ty prog 26 false 1:=⟨⟨_,underlying26,rfl⟩,by kernel_rfl⟩
theorem qpU:Ty prog 23 false 1:=⟨⟨_,underlying23,rfl⟩,by kernel_rfl⟩
theorem qlD:ElT prog 23 59 6 120:=.of underlying23 ob od
theorem qb1:Ty prog 25 true 2:=⟨⟨_,underlying25,rfl⟩,by kernel_rfl⟩
theorem qmC:Fld prog 25 1 1:=⟨_,_,1,underlying25,rfl,rfl,by kernel_rfl,by decide⟩
theorem qlK:Ty prog 57 false 1:=⟨⟨_,underlying57,rfl⟩,by kernel_rfl⟩
theorem qiR:ElT prog 57 81 2 40:=.of underlying57 ob od
theorem qkA:Ty prog 59 true 6:=⟨⟨_,underlying59,rfl⟩,by kernel_rfl⟩
theorem qqR:Fld prog 59 1 1:=⟨_,_,1,underlying59,rfl,rfl,by kernel_rfl,by decide⟩
theorem qtl:yB prog 59 [.str ⟨#[]⟩,.lst [],.lst [],.lst [],.lst [],.int .i64 0]:=.mk rfl ob underlying59 ob
theorem qsL:yv prog 59 (.agg [.str ⟨#[]⟩,.lst [],.lst [],.lst [],.lst [],.int .i64 0]):=.agg qtl
theorem qft:Ty prog 69 false 1:=⟨⟨_,underlying69,rfl⟩,by kernel_rfl⟩
theorem qhl:ElT prog 69 167 3 24:=.of underlying69 ob od
theorem qmq:yv prog 69 (.lst []):=.val (.slice none 0 0) rfl ob rfl
theorem qjP:Ty prog 167 true 3:=⟨⟨_,underlying167,rfl⟩,by kernel_rfl⟩
theorem qoZ:yB prog 167 [.int .i64 0,.int .i64 0,.bool false]:=.mk rfl ob underlying167 ob
theorem qo4:yv prog 167 (.agg [.int .i64 0,.int .i64 0,.bool false]):=.agg qoZ
abbrev wr(n:Int):Int:=IntKind.i64.wrap n
theorem qex{n:Int}(h: -9223372036854775808≤n∧n<9223372036854775808):wr n=n:=wrap64 h
def getI{α:Type}(l:List α)(n:Int):Option α:=if 0≤n then l[n.toNat]? else none
theorem qfo{α:Type}(l:List α)(i:Nat):getI l (i:Int)=l[i]? :=by simp[getI]
theorem qhL{α:Type}{l:List α}{n:Int}{q:α}(h:getI l n=some q):0≤n∧l[n.toNat]? =some q:=by
 unfold getI at h;split at h
 exact⟨by assumption,h⟩;cases h
def appO{α:Type}(b:Nat)(l m:List α):Option (List α):=if(l.length+m.length)*b≤140737488355328∧l.length+m.length≤9223372036854775807 then some (l++m)else none
theorem qeL{α:Type}{b:Nat}{l m:List α}(h:(l.length+m.length)*b≤140737488355328)(a:l.length+m.length≤9223372036854775807):appO b l m=some (l++m):=by rw[appO,if_pos ⟨h,a⟩]
theorem qlh{α:Type}{b:Nat}{l m r:List α}(h:appO b l m=some r):(l.length+m.length)*b≤140737488355328∧l.length+m.length≤9223372036854775807∧r=l++m:=by
 unfold appO at h;split at h
 rename_i a
 exact⟨a.1,a.2,(Option.some.inj h).symm⟩;cases h
def subO{α:Type}(l:List α)(lo hi:Int):Option (List α):=if 0≤lo∧lo≤hi∧hi≤l.length then some ((l.take hi.toNat).drop lo.toNat)else none
theorem qn9{α:Type}{l r:List α}{lo hi:Int}(h:subO l lo hi=some r):0≤lo∧lo≤hi∧hi≤l.length∧r=(l.take hi.toNat).drop lo.toNat:=by
 unfold subO at h;split at h
 rename_i a
 exact⟨a.1,a.2.1,a.2.2,(Option.some.inj h).symm⟩;cases h
def zad(b:Nat)(n:Int):Option Nat:=if 0≤n∧b*n.toNat≤281474976710656∧n.toNat≤9223372036854775807 then some n.toNat else none
theorem qo7{b:Nat}{n:Int}{r:Nat}(h:zad b n=some r):n=(r:Int)∧b*r≤281474976710656∧r≤9223372036854775807:=by
 unfold zad at h;split at h
 rename_i a
 obtain rfl:=Option.some.inj h;exact⟨by omega,a.2.1,a.2.2⟩;cases h
theorem zV{α β:Type}{o:Option α}{f:α→Option β}{r:β}(h:o.bind f=some r):∃q,o=some q∧f q=some r:=by
 cases o with
 |none=>cases h
 |some q=>exact⟨q,rfl,h⟩
theorem exK{β γ:Type}(F:β→γ){a:β}{r:γ}(h:F a=r):∃k,k=a∧F k=r:=⟨a,rfl,h⟩
theorem zat{α:Type}(l:List α)(i:Nat)(hi:i≤l.length):(decide ((i:Int)<(l.length:Int))=false∧l.drop i=[]∧i=l.length)∨∃q,decide ((i:Int)<(l.length:Int))=true∧l.drop i=q::l.drop (i+1)∧getI l (i:Int)=some q∧i<l.length:=by
 by_cases h:i<l.length;exact .inr ⟨l[i],decide_eq_true oa,vX h,by rw[qfo];exact jj h,h⟩;exact .inl ⟨decide_eq_false oa,vo oa,by omega⟩
theorem zcR(i n:Int)(m:Nat)(hm:m=(n-i).toNat):(m=0∧decide (i<n)=false)∨∃a,m=a+1∧decide (i<n)=true∧a=(n-(i+1)).toNat∧i<n:=by
 by_cases h:i<n;exact .inr ⟨(n-(i+1)).toNat,by omega,decide_eq_true h,rfl,h⟩;exact .inl ⟨by omega,decide_eq_false h⟩
theorem zca(m:Nat):(m=0∧decide ((m:Int)-1≥0)=false)∨∃a,m=a+1∧decide ((m:Int)-1≥0)=true:=by
 cases m with
 |zero=>exact .inl ⟨rfl,by decide⟩
 |succ k=>exact .inr ⟨k,rfl,decide_eq_true oa⟩
section
variable{P:Program}{X:Env→D→St→Prop}{l:List Oper}{rest:List (Nat×Cls)}{env:Env}{σ:St}{f:FuncId}{fn:Func}{K:Ctx}{R:D→St→Prop}{k:List Item}
theorem r_sB{m:Md}{α:Type}(s:Nat){b:Bool}{x y:Option α}{res:α}(hs:lk env s=some (.bool b))(hr:(bif b then x else y)=some res)(a:b=true→x=some res→Run P l.toArray X (ze m P f fn K R k) rest ((s,.bool true)::env) σ)(c:b=false→y=some res→Run P l.toArray X (ze m P f fn K R k) rest ((s,.bool false)::env) σ):Run P l.toArray X (ze m P f fn K R k) rest env σ:=
 qgm s hs (fun h=>a h (by rw[h]at hr;exact hr)) fun h=>c h (by rw[h]at hr;exact hr)
theorem g_sB{m:Md}{α:Type}(s:Nat){b:Bool}{x y:Option α}{res:α}(hs:lk env s=some (.bool b))(hr:(bif b then x else y)=some res)(a:b=true→x=some res→ze m P f fn K R k ((s,.bool true)::env) σ)(c:b=false→y=some res→ze m P f fn K R k ((s,.bool false)::env) σ):ze m P f fn K R k env σ:=
 qbB s hs (fun h=>a h (by rw[h]at hr;exact hr)) fun h=>c h (by rw[h]at hr;exact hr)
theorem qf1{m:Md}{id:Nat}{c:Code}(J:Env→St→Prop)(a:∀env σ,J env σ→ze m P f fn K R k env σ)(h:(∀env σ,J env σ→ze m P f fn K R k env σ)→ze m P f fn K R (.code c:: .inBlock id::k) env σ):ze m P f fn K R (.code (.block id c)::k) env σ:=qcj (h a)
end
theorem pf0{α:Type}(l:List α):l.Perm l:=List.Perm.refl _
theorem pf1{α:Type}(a b:α)(l:List α):(a::b::l).Perm (b::a::l):=List.Perm.swap b a l
theorem pf2{α:Type}(a b c:α)(l:List α):(a::b::c::l).Perm (c::a::b::l):=((pf1 b c l).cons a).trans (pf1 a c _)
theorem pf3{α:Type}(a b c d:α)(l:List α):(a::b::c::d::l).Perm (d::a::b::c::l):=((pf2 b c d l).cons a).trans (pf1 a d _)
theorem pf4{α:Type}(a b c d e:α)(l:List α):(a::b::c::d::e::l).Perm (e::a::b::c::d::l):=((pf3 b c d e l).cons a).trans (pf1 a e _)
theorem pf5{α:Type}(a b c d e f:α)(l:List α):(a::b::c::d::e::f::l).Perm (f::a::b::c::d::e::l):=((pf4 b c d e f l).cons a).trans (pf1 a f _)
theorem pf6{α:Type}(a b c d e f g:α)(l:List α):(a::b::c::d::e::f::g::l).Perm (g::a::b::c::d::e::f::l):=((pf5 b c d e f g l).cons a).trans (pf1 a g _)
theorem pf7{α:Type}(a b c d e f g h:α)(l:List α):(a::b::c::d::e::f::g::h::l).Perm (h::a::b::c::d::e::f::g::l):=((pf6 b c d e f g h l).cons a).trans (pf1 a h _)
section
variable{P:Program}{o:Oper}{ρ:Operand→Option D}{d:D}{α:Type}{f:α→D}
theorem qgj{t e:TypeId}{x ix:Operand}{s by_:Nat}{g:D}(l:List α){k:IntKind}{n:Int}{q:α}(h:o.op= .indexAddr t x ix)(j:ElT P t e s by_)(m:ρ x=some g)(hl:AsL g (l.map f))(c:ρ ix=some (.int k n))(hq:getI l n=some q)(b:∀a,sz (f a)=s)(p:(f q).plain=true):zi P o ρ (.ptr (f q)):=by
 obtain⟨u,r⟩:=qhL hq;exact qAJ n.toNat h j m hl c oa (getm r) (zaQ b) p
theorem qnQ{x y:Operand}{t e:TypeId}{s by_:Nat}(l m:List α){r:List α}{c:D}(g:o.op= .call {callee:=.builtin .append,args:=#[x,y],argTypes:=#[t,t]})(h:ElT P t e s by_)(j:ρ x=some (.full (l.map f)))(hy:ρ y=some c)(hm:AsL c (m.map f))(b:∀a,sz (f a)=s)(hr:appO by_ l m=some r):zi P o ρ (.lst (r.map f)):=by
 obtain⟨n,p,rfl⟩:=qlh hr;rw[jJ];exact qwF g h j hy hm (zaQ b) (zaQ b) (by simpa using n) (by simpa using p)
theorem qlj{x y:Operand}{t e:TypeId}{s by_:Nat}{σ τ:St}{u:Value}(l m:List α){r:List α}{c:D}{n:Nat}(j:o.op= .call {callee:=.builtin .append,args:=#[x,y],argTypes:=#[t,t]})(p:ElT P t e s by_)(q:ρ x=some (.own u (l.map f)))(hy:ρ y=some c)(hm:AsL c (m.map f))(v:σ.Perm (.row u n e s::τ))(hn:n=l.length)(b:∀a,sz (f a)=s)(hr:appO by_ l m=some r):
 zp P o ρ σ fun d' σ'=>∃g,d'= .own g (r.map f)∧σ'= .row g r.length e s::τ:=by
 obtain⟨w,z,rfl⟩:=qlh hr;have h:=qx9 (P:=P) (o:=o) (ρ:=ρ) (σ:=σ) (τ:=τ) (u:=u) (l:=l.map f) (m:=m.map f) j p q hy hm (by rw[jh,←hn];exact v) (zaQ b) (zaQ b) (by simpa using w) (by simpa using z);rw[←jJ,jh]at h;exact h
theorem qC8{t e:TypeId}{x:Operand}{low high:Option Operand}{s by_:Nat}{c:D}(l:List α){r:List α}(lo hi:Int)(g:o.op= .slice t x low high none)(h:ElT P t e s by_)(j:ρ x=some c)(hl:AsL c (l.map f))(m:∀n:Nat,(n:Int)=lo→za2 ρ low n)(p:∀n:Nat,(n:Int)=hi→za1 ρ l.length high n)(b:∀a,sz (f a)=s)(hr:subO l lo hi=some r):zi P o ρ (.lst (r.map f)):=by
 obtain⟨q,u,v,rfl⟩:=qn9 hr;have:=qsS lo.toNat hi.toNat g h j hl (m _ oa) (by rw[jh];exact p _ oa) oa (by rw[jh];omega) (zaQ b)
 rwa [←vZ,←JA]at this
theorem qAA:∀n:Nat,(n:Int)=0→za2 ρ none n:=fun n h=>by unfold za2;omega
theorem qAM{x:Operand}{k:IntKind}{m:Int}(h:ρ x=some (.int k m)):∀n:Nat,(n:Int)=m→za2 ρ (some x) n:=fun n e=>⟨k,m,h,e.symm⟩
theorem qAv{len:Nat}:∀n:Nat,(n:Int)=(len:Int)→za1 ρ len none n:=fun n h=>by unfold za1;omega
theorem qz2{len:Nat}{x:Operand}{k:IntKind}{m:Int}(h:ρ x=some (.int k m)):∀n:Nat,(n:Int)=m→za1 ρ len (some x) n:=fun n e=>⟨k,m,h,e.symm⟩
theorem qBM{t e:TypeId}{x y z:Operand}{s by_:Nat}{c:D}(l:List α){r:List α}{k g:IntKind}{hi:Int}(h:o.op= .slice t x none (some y) (some z))(j:ElT P t e s by_)(m:ρ x=some c)(hl:AsL c (l.map f))(hy:ρ y=some (.int k hi))(n:ρ z=some (.int g hi))(b:∀a,sz (f a)=s)(hr:subO l 0 hi=some r):zi P o ρ (.full (r.map f)):=by
 obtain⟨p,q,u,rfl⟩:=qn9 hr;have:=qCJ hi.toNat h j m hl hy oa n oa (by rw[jh];omega) (zaQ b)
 rwa [←vZ]at this
theorem qfU{x:Operand}{t e:TypeId}{s by_:Nat}{a:D}(l:List α)(b:o.op= .call {callee:=.builtin .len,args:=#[x],argTypes:=#[t]})(c:ElT P t e s by_)(g:ρ x=some a)(hl:AsL a (l.map f)):zi P o ρ (.int .i64 (l.length:Int)):=by
 have:=qx6 b c g hl
 rwa [jh]at this
theorem qw9{t e:TypeId}{x y:Operand}{s by_:Nat}{k c:IntKind}{a:Int}{r:Nat}(z:α){σ:St}(g:o.op= .makeSlice t x y)(h:ElT P t e s by_)(j:yv P e (f z))(m:ρ x=some (.int k a))(hy:ρ y=some (.int c a))(hr:zad by_ a=some r):
 zp P o ρ σ fun d' σ'=>∃b,d'= .arr b s 0 r∧σ'= .arr b ((List.replicate r z).map f) e s::σ:=by
 obtain⟨rfl,n,p⟩:=qo7 hr;rw[List.map_replicate];exact qrD g h j m rfl hy rfl n p
theorem qzV{t e:TypeId}{x y:Operand}{s by_:Nat}{k b:IntKind}{a:Int}{r:Nat}{σ:St}(c:o.op= .makeSlice t x y)(g:ElT P t e s by_)(h:ρ x=some (.int k 0))(hy:ρ y=some (.int b a))(hr:zad by_ a=some r):
 zp P o ρ σ fun d' σ'=>∃u,d'= .own u (([]:List α).map f)∧σ'= .row u ([]:List α).length e s::σ:=by
 obtain⟨j,m,n⟩:=qo7 hr;exact qww c g h hy j m n
theorem qsx{t e:TypeId}{n s by_:Nat}{parts:Array (Nat×Operand)}(xs:List Operand)(l:List α)(m:o.op= .buildSlice t n parts)(p:ElT P t e s by_)(c:parts.toList=(xs.zipIdx 0).map fun x=>(x.2,x.1))(hn:n=xs.length)(g:0<n)(h:n*s≤16777216)(q:yZ ρ xs (l.map f))(b:∀a,sz (f a)=s)(j:∀a,(f a).plain=true):zi P o ρ (.full (l.map f)):=
 qAH xs m p c hn g h q (zaQ b) fun d hd=>by
  obtain⟨a,_,rfl⟩:=jt.1 hd;exact j a
theorem quQ{t e:TypeId}{x ix:Operand}{s by_ b lo n:Nat}{k:IntKind}{m:Int}{q:α}(l:List α)(c:o.op= .indexAddr t x ix)(g:ElT P t e s by_)(h:ρ x=some (.arr b s lo n))(a:ρ ix=some (.int k m))(hq:getI l m=some q)(hn:l.length=n):zi P o ρ (.mref b (lo+m.toNat) s 0 []):=by
 obtain⟨p,j⟩:=qhL hq;exact qu5 m.toNat c g h a oa (by rw[←hn];exact(jd.1 j).1)
end
section
variable{α β:Type}[DecidableEq α]
def zk:List (α×β)→α→Option β |[],_=>none |q::l,x=>if q.1=x then some q.2 else zk l x
def yo:List (α×β)→α→β→List (α×β) |[],x,d=>[(x,d)] |q::l,x,d=>if q.1=x then(x,d)::l else q::yo l x d
theorem qla(g:β→D):∀(l:List (α×β))(x:α),yz (l.map fun q=>(q.1,g q.2)) x=(zk l x).map g
 |[],_=>rfl
 |q::l,x=>by
  simp only[jm,yz,zk];split
  rfl;exact qla g l x
theorem qm9(g:β→D):∀(l:List (α×β))(x:α)(d:β),zaK (l.map fun q=>(q.1,g q.2)) x (g d)=(yo l x d).map fun q=>(q.1,g q.2)
 |[],_,_=>rfl
 |q::l,x,d=>by
  simp only[jm,zaK,yo];split
  rfl;rw[qm9 g l x d];rfl
theorem qa1:∀(l:List (α×β))(x y:α)(d:β),zk (yo l x d) y=if x=y then some d else zk l y
 |[],x,y,d=>by simp[yo,zk]
 |q::l,x,y,d=>by
  simp only[yo];split
  rename_i h
  simp only[zk];split
  rfl;rename_i b;rw[if_neg (by rw[h];exact b)]
  rename_i h
  simp only[zk,qa1 l x y d];by_cases a:q.1=y;rw[if_pos a,if_neg (fun b=>h (a.trans b.symm)),if_pos a];rw[if_neg a,if_neg a]
theorem qld:∀(l:List (α×β))(x:α)(d:β),(yo l x d).length≤l.length+1
 |[],_,_=>by simp[yo]
 |q::l,x,d=>by
  unfold yo;split
  simp;have:=qld l x d;simp only[jg];omega
end
abbrev zb{α β:Type}(key:α→D)(g:β→D)(l:List (α×β)):List (D×D):=l.map fun q=>(key q.1,g q.2)
theorem qhG{α β:Type}(key:α→D)(g:β→D)(l:List (α×β)):zb key g l=yS key (l.map fun q=>(q.1,g q.2)):=by simp[jR,Function.comp_def]
def mputO{α β:Type}[DecidableEq α](l:List (α×β))(x:α)(d:β):Option (List (α×β)):=if l.length<9223372036854775807 then some (yo l x d)else none
theorem ql1{α β:Type}[DecidableEq α]{l r:List (α×β)}{x:α}{d:β}(h:mputO l x d=some r):l.length<9223372036854775807∧r=yo l x d:=by
 unfold mputO at h;split at h
 exact⟨by assumption,(Option.some.inj h).symm⟩;cases h
def zbi(P:Program)(e:TypeId)(z:D):Prop:=∃a,(P.info? e).map (·.zero)=some (some a)∧∀p w,Rep p w z a
section
variable{P:Program}{o:Oper}{ρ:Operand→Option D}{α β:Type}[DecidableEq α]{key:α→D}{g:β→D}
theorem qvH{t kt e:TypeId}{x y:Operand}{vk:α→Value}{d:Value→Prop}{r:Nat}(l:List (α×β))(a0:α)(z:β){σ:St}(b:o.op= .lookup t x y true)(c:P.underlying t=some (.map kt e))(hK:yO P kt key vk d)(h:zbi P e (g z))(j:ρ x=some (.map r))(hy:ρ y=some (key a0))(a: .map r (zb key g l)∈σ):
 zp P o ρ σ fun d' σ'=>d'= .tup [g ((zk l a0).getD z),.bool (zk l a0).isSome]∧σ'=σ:=by
 obtain⟨q,m,n⟩:=h;rw[qhG]at a;have:=qxf b c hK m n j hy a;rw[qla,Option.isSome_map]at this;have p:((zk l a0).map g).getD (g z)=g ((zk l a0).getD z):=by cases zk l a0<;>rfl
 rwa [p]at this
theorem qxu{t kt e:TypeId}{x y:Operand}{vk:α→Value}{d:Value→Prop}{r:Nat}{l:List (α×D)}{a0:α}{z:D}{m:Value}{σ:St}(c:o.op= .lookup t x y false)(F:P.underlying t=some (.map kt e))(hK:yO P kt key vk d)(J:(P.info? e).map (·.zero)=some (some m))(n:∀p w,Rep p w z m)(L:ρ x=some (.map r))(hy:ρ y=some (key a0))(M: .map r (yS key l)∈σ):
 zp P o ρ σ fun d' σ'=>d'=(yz l a0).getD z∧σ'=σ:=fun K p a w hi h=>by
 have q:=h x (by rw[c];simp[Op.operands]) _ L;have u:=hK.rep _ _ _ _ (h y (by rw[c];simp[Op.operands]) _ hy);have b:d (vk a0):=u▸hK.good _ _ _ _ (h y (by rw[c];simp[Op.operands]) _ hy);simp only[Rep]at q;obtain⟨es,clock,G,v,_⟩:=hi.ok _ M;obtain⟨i,A,B⟩:=jC.1 J;have H:=hK.check w es.isEmpty (vk a0) b;rcases qia hK p w a0 z l es.toList 0 v with⟨C,I,_⟩|⟨j,N,S,C,I,U,O,Q,_⟩
 · have E:=(hK.find w (vk a0) es.toList b (qeU hK v)).trans (by rw[C])
   have hr:(execOp a.eval o).run P w= .ok (.value m) w:=by
    unfold execOp;rw[c];simp[q,u,Instr.lookup,run_underlying F,MapKept.run_getObj_map G,H,E,zeroValue,typeInfo,A,B]
   unfold Oper.wp;rw[hr];refine⟨_,_,_,p,rfl,⟨rfl,rfl⟩,?_,hi,zE.refl _ _⟩;rw[I];exact n p w
 · have E:=(hK.find w (vk a0) es.toList b (qeU hK v)).trans (by rw[C])
   have hr:(execOp a.eval o).run P w= .ok (.value N.val) w:=by
    unfold execOp;rw[c];simp[q,u,Instr.lookup,run_underlying F,MapKept.run_getObj_map G,H,E]
   unfold Oper.wp;rw[hr];refine⟨_,_,_,p,rfl,⟨rfl,rfl⟩,?_,hi,zE.refl _ _⟩;rw[O];exact Q
theorem qvB{t kt e:TypeId}{x y:Operand}{vk:α→Value}{d:Value→Prop}{r:Nat}(l:List (α×β))(a0:α)(z:β){σ:St}(b:o.op= .lookup t x y false)(c:P.underlying t=some (.map kt e))(hK:yO P kt key vk d)(h:zbi P e (g z))(j:ρ x=some (.map r))(hy:ρ y=some (key a0))(a: .map r (zb key g l)∈σ):
 zp P o ρ σ fun d' σ'=>d'=g ((zk l a0).getD z)∧σ'=σ:=by
 obtain⟨q,m,n⟩:=h;rw[qhG]at a;have:=qxu b c hK m n j hy a;rw[qla]at this;have p:((zk l a0).map g).getD (g z)=g ((zk l a0).getD z):=by cases zk l a0<;>rfl
 rwa [p]at this
theorem qnq{t kt e:TypeId}{x y v:Operand}{vk:α→Value}{d:Value→Prop}{r:Nat}(l:List (α×β))(a0:α)(a:β){l':List (α×β)}{b:D}{σ τ:St}(h:o.op= .mapUpdate t x y v)(j:P.underlying t=some (.map kt e))(hK:yO P kt key vk d)(m:ρ x=some (.map r))(hy:ρ y=some (key a0))(n:ρ v=some b)(hw:Wk b (g a))(c:σ.Perm (.map r (zb key g l)::τ))(hl:mputO l a0 a=some l'):
 zp P o ρ σ fun _ σ'=>σ'= .map r (zb key g l')::τ:=by
 obtain⟨p,rfl⟩:=ql1 hl;rw[qhG]at c;have:=qs6 τ h j hK m hy n hw c (by rw[jh];exact p)
 rwa [qm9,←qhG]at this
end
theorem qwM{P:Program}{o:Oper}{ρ:Operand→Option D}{α β:Type}{key:α→D}{g:β→D}{t:TypeId}{σ:St}(a:o.op= .makeMap t none):zp P o ρ σ fun d' σ'=>∃r,d'= .map r∧σ'= .map r (zb key g ([]:List (α×β)))::σ:=qwZ a
theorem qpk{P:Program}{o:Oper}{ρ:Operand→Option D}{α β:Type}{key:α→D}{g:β→D}{t kt e:TypeId}{x:Operand}{k:IntKind}{n:Int}{σ:St}(a:o.op= .makeMap t (some x))(b:P.underlying t=some (.map kt e))(c:ρ x=some (.int k n)):zp P o ρ σ fun d' σ'=>∃r,d'= .map r∧σ'= .map r (zb key g ([]:List (α×β)))::σ:=qvx a b c
section
variable{P:Program}{f:FuncId}{fn:Func}{K:Ctx}{R:D→St→Prop}{k:List Item}{env:Env}{σ:St}
theorem qBW{m:Md}(s:Nat)(path:List Nat){d0 b:D}{l:List D}(hs:lk env s=some d0)(e:zai d0 path=some b)(hl:AsL b l)(h:l.length≤9223372036854775807→ze m P f fn K R k env σ):ze m P f fn K R k env σ:=
 qpt (fun p a w _ hr=>by
  obtain⟨v,j,_⟩:=qjR (hr s _ hs) e;obtain⟨A,c,xs,_,n,q,_⟩:=hl.rep j;omega) h
theorem qvb{m:Md}(s:Nat){d d':D}(hs:lk env s=some d)(hd:d=d')(h:ze m P f fn K R k ((s,d')::env) σ):ze m P f fn K R k env σ:=by
 subst hd;refine qlc _ env σ (fun t=>?_) h;rw[qa5];split
 rename_i h;subst h;exact hs.symm
 rfl
theorem qt1{m:Md}(e:TypeId)(s:Nat)(h:ze m P f fn K R k env (.row (.slice none 0 0) ([]:List D).length e s::σ)):ze m P f fn K R k env σ:=fun p a w hi=>
 h p a w (hi.more ⟨⟨[],World.ownsRow_nil w 0 e s⟩,fun g c=>by simp[Value.ownBlock]at c⟩ (fun b hb=>by simp[Ob.blk,Value.ownBlock]at hb))
theorem r_st{X:Env→D→St→Prop}{Q:Env→St→Prop}{l:List Oper}{rest:List (Nat×Cls)}(σ':St)(hs:σ=σ')(h:Run P l.toArray X Q rest env σ'):Run P l.toArray X Q rest env σ:=hs▸h
end
def zaN(n:Int):Option Nat:=if-1≤n then some (n+1).toNat else none
theorem qps{n:Int}{m:Nat}(h:zaN n=some m):n=(m:Int)-1:=by
 unfold zaN at h;split at h
 have:=Option.some.inj h;omega;cases h
section
variable{P:Program}{o:Oper}{ρ:Operand→Option D}{d:D}
theorem qCu{t j:TypeId}{x y:Operand}{m n:Int}(b:o.op= .binOp .quo t x y j)(q:ρ x=some (.int .i64 m))(hy:ρ y=some (.int .i64 n))(hn:n≠0):zi P o ρ (.int .i64 (wr (Int.tdiv m n))):=qM fun p a w h=>by
 have c:=h x (by rw[b];simp[Op.operands]) _ q;have e:=h y (by rw[b];simp[Op.operands]) _ hy;simp only[Rep]at c e;refine⟨.int .i64 (wr (Int.tdiv m n)),?_,by simp only[Rep];exact⟨trivial,qly _ _⟩⟩;unfold execOp;rw[b];simp only[c.1,e.1];simp[binOp,eqGuard,Op.intDiv,hn,wr]
def zav(m n:Int):Int:=if n<m then n else m
def zap(m n:Int):Int:=if n>m then n else m
theorem qt5(m n:Int):zav m n=min m n:=by unfold zav;omega
theorem qt2(m n:Int):zap m n=max m n:=by unfold zap;omega
theorem qDt{t j:TypeId}{x y:Operand}{m n:Int}(b:o.op= .call {callee:=.builtin .min,args:=#[x,y],argTypes:=#[t,j]})(q:ρ x=some (.int .i64 m))(hy:ρ y=some (.int .i64 n)):zi P o ρ (.int .i64 (zav m n)):=qM fun p a w h=>by
 have c:=h x (by rw[b];simp[Op.operands,Call.operands]) _ q;have e:=h y (by rw[b];simp[Op.operands,Call.operands]) _ hy;simp only[Rep]at c e;refine⟨.int .i64 (zav m n),?_,by simp only[Rep];exact⟨trivial,by unfold zav;split;exact e.2;exact c.2⟩⟩;unfold execOp;rw[b];simp[resolve,invoke,builtin,c.1,e.1,Builtin.min_,Builtin.min2,zav]
theorem qDB{t j:TypeId}{x y:Operand}{m n:Int}(b:o.op= .call {callee:=.builtin .max,args:=#[x,y],argTypes:=#[t,j]})(q:ρ x=some (.int .i64 m))(hy:ρ y=some (.int .i64 n)):zi P o ρ (.int .i64 (zap m n)):=qM fun p a w h=>by
 have c:=h x (by rw[b];simp[Op.operands,Call.operands]) _ q;have e:=h y (by rw[b];simp[Op.operands,Call.operands]) _ hy;simp only[Rep]at c e;refine⟨.int .i64 (zap m n),?_,by simp only[Rep];exact⟨trivial,by unfold zap;split;exact e.2;exact c.2⟩⟩;unfold execOp;rw[b];simp[resolve,invoke,builtin,c.1,e.1,Builtin.max_,Builtin.max2,zap]
theorem qkO{x:Operand}{b off:Nat}{path:List Nat}(e:o.op= .nilCheck x)(j:ρ x=some (.ref b off path)):zi P o ρ (.ref b off path):=qM fun p a w h=>by
 have c:=h x (by rw[e];simp[Op.operands]) _ j;refine⟨a.eval x,?_,c⟩;simp only[Rep]at c;unfold execOp;rw[e];simp[c]
theorem qtk{x:Operand}(e:o.op= .nilCheck x)(j:ρ x=some (.ptr d)):zi P o ρ (.ptr d):=qM fun p a w h=>by
 have c:=h x (by rw[e];simp[Op.operands]) _ j;refine⟨a.eval x,?_,c⟩;simp only[Rep]at c;obtain⟨b,o',u,c,_⟩:=c;unfold execOp;rw[e];simp[c]
end
theorem qoK:callee prog 189:=⟨_,_,func189,rfl,by decide⟩
theorem qlH:callee prog 168:=⟨_,_,func168,rfl,by decide⟩
theorem qjA:callee prog 237:=⟨_,_,func237,rfl,by decide⟩
mutual
def fsT:T→List D |.mk k i s ar=>[.int .i64 k,.int .i64 i,.str s,.lst (za4 ar)]
def za4:List T→List D |[]=>[] |t::ts=>.agg (fsT t)::za4 ts
end
abbrev zg(t:T):D:=.agg (fsT t)
theorem qmU:∀(ts:List T),za4 ts=ts.map zg
 |[]=>rfl
 |t::ts=>by rw[za4,qmU ts];rfl
theorem qho(t:T):fsT t=[.int .i64 t.k,.int .i64 t.i,.str t.s,.lst (t.ar.map zg)]:=by
 cases t;simp only[fsT,qmU,T.k,T.i,T.s,T.ar]
theorem qjX(t:T):(fsT t)[0]? =some (.int .i64 t.k):=by rw[qho];rfl
theorem qpT(t:T):(fsT t)[1]? =some (.int .i64 t.i):=by rw[qho];rfl
theorem qqw(t:T):(fsT t)[2]? =some (.str t.s):=by rw[qho];rfl
theorem qqH(t:T):(fsT t)[3]? =some (.lst (t.ar.map zg)):=by rw[qho];rfl
theorem qjT(t:T):szs ((fsT t).take 0)=0:=by rw[qho];rfl
theorem qqK(t:T):szs ((fsT t).take 1)=1:=by rw[qho];rfl
theorem qqv(t:T):szs ((fsT t).take 2)=2:=by rw[qho];rfl
theorem qpV(t:T):szs ((fsT t).take 3)=3:=by rw[qho];rfl
theorem qkK(t:T):sz (zg t)=4:=by rw[zg,qho];rfl
theorem qfc(t:T):szs (fsT t)=4:=by rw[qho];rfl
def zK(a:At):D:=.agg [.str a.n,.lst (a.ts.map zg)]
def zG(g:Gl):D:=.agg [.int .i64 g.op,.str g.n,.lst (g.ts.map zg)]
def zw(x:Int×T):D:=.agg [.int .i64 x.1,zg x.2]
theorem qfp(x:Int×T):sz (zw x)=5:=by
 show 1+(sz (zg x.2)+0)=5;rw[qkK]
section
variable{p:Addr→Prop}{w:World}
mutual
theorem qBr:∀(t:T)(v:Value),Rep p w (zg t) v→∃cs,v= .agg cs.toArray∧CT w t cs
 |.mk k i s ar,v,h=>by
  simp only[Rep,fsT]at h;obtain⟨cs,rfl,h,_⟩:=h;simp only[zj,Rep]at h;obtain⟨v1,_,rfl,⟨rfl,b⟩,v2,_,rfl,⟨rfl,hi⟩,v3,_,rfl,⟨rfl,hs⟩,v4,_,rfl,⟨A,c,xs,rfl,hl,e,hr,a,_⟩,rfl⟩:=h;rw[show(za4 ar).length=ar.length by rw[qmU];simp]at hl⊢;refine⟨_,rfl,?_⟩;simp only[CT];have j:=qfu b;have m:=qfu hi;exact⟨A,c,xs,by simp[Value.cells],⟨by unfold I64;omega,by unfold I64;omega,hs,hl,e⟩,hr.rd,qAP ar xs a⟩
theorem qAP:∀(ts:List T)(xs:List Value),zj p w (za4 ts) xs→CL w ts xs
 |[],xs,h=>by simpa only[za4,zj,CL]using h
 |t::ts,xs,h=>by
  simp only[za4,zj]at h;obtain⟨v,rest,rfl,a,b⟩:=h;obtain⟨cs,rfl,c⟩:=qBr t v a;simpa[Value.cells]using CL.cons c (qAP ts rest b)
end
theorem qoI{t:T}{v:Value}(h:Rep p w (zg t) v):VT w t v:=qBr t v h
theorem qB4{ts:List T}{v:Value}(h:Rep p w (.lst (ts.map zg)) v):SlT w ts v:=by
 simp only[Rep]at h;obtain⟨A,c,xs,rfl,a,b,e,j,_⟩:=h;simp only[jh]at a⊢;exact⟨A,c,xs,rfl,a,b,e.rd,qAP ts xs (by rw[qmU];exact j)⟩
theorem qu4{a:At}{v:Value}(h:Rep p w (zK a) v):VA w a v:=by
 simp only[zK,Rep,zj]at h;obtain⟨cs,rfl,⟨v1,_,rfl,⟨rfl,hs⟩,v2,_,rfl,b,rfl⟩,_⟩:=h;have e:=qB4 (ts:=a.ts) (by simpa only[Rep]using b);obtain⟨A,c,xs,rfl,_⟩:=b;exact⟨_,rfl,_,by simp[Value.cells],e,hs⟩
theorem qr5{g:Gl}{v:Value}(h:Rep p w (zG g) v):VG w g v:=by
 simp only[zG,Rep,zj]at h;obtain⟨cs,rfl,⟨v0,_,rfl,⟨rfl,b⟩,v1,_,rfl,⟨rfl,hs⟩,v2,_,rfl,a,rfl⟩,_⟩:=h;have e:=qB4 (ts:=g.ts) (by simpa only[Rep]using a);obtain⟨A,c,xs,rfl,_⟩:=a;have j:=qfu b;exact⟨_,rfl,_,by simp[Value.cells],e,by unfold I64;omega,hs⟩
end
section
variable{P:Program}{o:Oper}{ρ:Operand→Option D}{α β:Type}{key:α→D}{g:β→D}
end
section
variable{P:Program}{f:FuncId}{fn:Func}{K:Ctx}{R:D→St→Prop}{k:List Item}{env:Env}{σ τ:St}
end
theorem qwy{P:Program}{o:Oper}{ρ:Operand→Option D}{t c:TypeId}{x:Operand}{d:TypeDesc}{k m:IntKind}{n:Int}(e:o.op= .convert t c x)(q:P.underlying t=some d)(b:P.underlying c=some (.int k))(r:ρ x=some (.int m n)):zi P o ρ (.int k (k.wrap n)):=qM fun p a w h=>by
 have j:=h x (by rw[e];simp[Op.operands]) _ r;simp only[Rep]at j;refine⟨.int k (k.wrap n),?_,by simp only[Rep];exact⟨trivial,qly _ _⟩⟩;unfold execOp;rw[e];simp[j.1,convert,run_underlying q,run_underlying b,Conv.intToInt]
section
variable{P:Program}{o:Oper}{ρ:Operand→Option D}{α:Type}{f:α→D}
theorem qqj{x y:Operand}{t e:TypeId}{s by_ n:Nat}{σ τ:St}{u:Value}(l m:List α){r:List α}{c:D}(q:o.op= .call {callee:=.builtin .append,args:=#[x,y],argTypes:=#[t,t]})(v:ElT P t e s by_)(z:ρ x=some (.vec u n))(hy:ρ y=some c)(hm:AsL c (m.map f))(A:σ.Perm (.vec u (l.map f) e s::τ))(b:∀a,sz (f a)=s)(hr:appO by_ l m=some r):
 zp P o ρ σ fun d' σ'=>∃j,d'= .vec j r.length∧σ'= .vec j (r.map f) e s::τ:=by
 obtain⟨B,C,rfl⟩:=qlh hr;have h:=qqz (P:=P) (o:=o) (ρ:=ρ) (σ:=σ) (τ:=τ) (u:=u) (l:=l.map f) (m:=m.map f) q v z hy hm A (zaQ b) (by simpa using B) (by simpa using C);rw[←jJ,jh]at h;exact h
theorem qpo{t e:TypeId}{x ix:Operand}{s by_ n:Nat}{u:Value}{k:IntKind}{m:Int}{q:α}{σ:St}(l:List α)(b:o.op= .indexAddr t x ix)(c:ElT P t e s by_)(h:ρ x=some (.vec u n))(a:ρ ix=some (.int k m))(hq:getI l m=some q)(j: .vec u (l.map f) e s∈σ):zp P o ρ σ fun d' σ'=>d'= .mref (zaE u) m.toNat s 0 []∧σ'=σ:=by
 obtain⟨v,r⟩:=qhL hq;exact qvl m.toNat b c h a oa (by rw[jh];exact(jd.1 r).1) j
end
section
variable{P:Program}{f:FuncId}{fn:Func}{K:Ctx}{R:D→St→Prop}{k:List Item}{env:Env}{σ:St}
end
theorem qxK(n:Int): -9223372036854775808≤wr n∧wr n<9223372036854775808:=by
 unfold wr;simp only[IntKind.wrap,IntKind.bits,IntKind.signed];simp;omega
inductive Wks:List D→List D→Prop
 |nil:Wks [] []
 |cons {d e:D} {ds es:List D} (h:Wk d e) (k:Wks ds es):Wks (d::ds) (e::es)
theorem Wks.reps{ds es:List D}(h:Wks ds es):∀{p:Addr→Prop}{w:World}{xs:List Value},zj p w ds xs→zj p w es xs:=by
 induction h with
 |nil=>exact fun h=>h
 |cons h _ a=>
  intro p w xs hr;simp only[zj]at hr⊢;obtain⟨v,rest,b,c,e⟩:=hr;exact⟨v,rest,b,h _ _ _ c,a e⟩
theorem Wk.agg{ds es:List D}(h:Wks ds es):Wk (.agg ds) (.agg es):=fun p w v a=>by
 simp only[Rep]at a⊢;obtain⟨cs,b,c,e⟩:=a;exact⟨cs,b,h.reps c,e⟩
theorem qos{P:Program}{o:Oper}{ρ:Operand→Option D}{α:Type}{t e:TypeId}{x ix:Operand}{s by_ b n:Nat}{k:IntKind}{m:Int}{q:α}(l:List α)(c:o.op= .indexAddr t x ix)(h:ElT P t e s by_)(j:ρ x=some (.arr b s 0 n))(a:ρ ix=some (.int k m))(hq:getI l m=some q)(hn:l.length=n):zi P o ρ (.mref b m.toNat s 0 []):=by
 have:=quQ l c h j a hq hn
 rwa [jc]at this
section
variable{P:Program}{f:FuncId}{fn:Func}{K:Ctx}{R:D→St→Prop}{k:List Item}{env:Env}{σ:St}
end
theorem Inv.of{K a:Ctx}{p:Addr→Prop}{σ:St}{w:World}(b:a.w0=K.w0)(c:a.p0=K.p0)(hF:a.F0=K.F0)(h:Inv K p σ w):Inv a p σ w:=by
 obtain⟨w0,p0,F0,X⟩:=K;obtain⟨e,j,m,n⟩:=a;simp only at b c hF;subst b c hF;exact⟨h.ok,h.nd,h.mine,h.pub,h.gr,h.neu,h.os,h.tape,h.output,h.size,h.block⟩
def zbI(w:World)(p:Addr→Prop)(σ:St)(X:D→Prop):Ctx:={ctx w p σ with X:=fun d _=>X d}
def yX(P:Program)(f:FuncId)(ds:List D)(σ:St)(R:D→St→Prop)(X:D→Prop):Prop:= ∀(w:World)(p:Addr→Prop)(a:List Value),Inv (ctx w p σ) p σ w→zB p w ds a→Calls P f a.toArray w (Left (zbI w p σ X) R)
def zcE(P:Program)(f:FuncId)(ds:List D)(σ:St)(d:D):Prop:=yX P f ds σ (fun _ _=>False) fun d'=>d'=d
section
variable{P:Program}{f:FuncId}{fn:Func}{ds:List D}{σ:St}{R:D→St→Prop}{X:D→Prop}
theorem qtJ{c:Code}(r:P.funcs[f]? =some fn)(hb:fn.body=some c)(h:∀K,(K.F0=fun b=>b∈yl σ)→(∀d,X d→K.X d [])→Goes P f fn K R [.code c] (yA 0 ds) σ):yX P f ds σ R X:=by
 intro w p j hi u cs;let b:Frame:={(default:Frame)with fn:=f,kind:=.normal,roundOf:=none}
 have a:Frame.enter P f j.toArray .normal=b.atR {tmps:=j.toArray++Array.replicate (fn.ntmps-j.toArray.size) undef,defers:=[]} [.code c]:=by
  simp[Frame.enter,Frame.atR,r,hb,b]
 rw[a];suffices x:Fin none .normal P f (zbI w p σ X) R (b.atR {tmps:=j.toArray++Array.replicate (fn.ntmps-j.toArray.size) undef,defers:=[]} [.code c]) cs w by
  obtain⟨e,w',fr,z,n,m,q⟩:=x;exact⟨e,w',fr,z,n,m,q.normal⟩
 refine h (zbI w p σ X) rfl (fun d hd=>hd) p _ w (hi.of (by rfl) (by rfl) (by rfl)) ?_ ?_ rfl b cs rfl rfl rfl r;intro t d A;obtain⟨_,n⟩:=qkP ds 0 t d A;obtain⟨v,m,q⟩:=u.at_ n;have:(j.toArray++Array.replicate (fn.ntmps-j.toArray.size) Go.undef).getD t Go.undef=v:=by
  have hlt:=(jd.1 m).1;have B:j[t]? =some v:=by simpa using m
  rw[Array.getD_eq_getD_getElem?,JB (by simpa using hlt)];simp[B]
 rw[this];exact q;simp;omega
theorem qic{α:Type}{a:α}{Q:α→D→St→Prop}{F:Int→D}(h:yX P f ds σ (fun d σ'=>∃r,(Sum.inr a:Int⊕α)= .inr r∧Q r d σ') (fun d=>∃c,(Sum.inr a:Int⊕α)= .inl c∧d=F c)):Spec P f ds σ (Q a):=fun w p b hi j=>
 (h w p b hi j).mono fun e w' hl=>by
  rcases hl with⟨v,d,σ',q,rfl,⟨r,hr,m⟩,n,t⟩|⟨v,d,σ',q,rfl,⟨c,u,_⟩,_⟩
  injection hr with hr
  subst hr;exact .inl ⟨v,d,σ',q,rfl,m,n,t.of (by rfl) (by rfl) (by rfl)⟩;cases u
theorem qg0{α:Type}{c0:Int}{Q:α→D→St→Prop}{F:Int→D}(h:yX P f ds σ (fun d σ'=>∃r,(Sum.inl c0:Int⊕α)= .inr r∧Q r d σ') (fun d=>∃c,(Sum.inl c0:Int⊕α)= .inl c∧d=F c)):zcE P f ds σ (F c0):=fun w p m hi n=>
 (h w p m hi n).mono fun e w' hl=>by
  rcases hl with⟨v,d,σ',q,rfl,⟨r,hr,t⟩,b,j⟩|⟨v,d,σ',q,rfl,⟨c,a,hd⟩,b,j⟩
  cases hr;injection a with a
  subst a;exact .inr ⟨v,d,σ',q,rfl,hd,b,j.of (by rfl) (by rfl) (by rfl)⟩
end
def bindX{α β:Type}(x:Option (Int⊕α))(f:α→Option (Int⊕β)):Option (Int⊕β):=x.bind fun s=>match s with
 |.inl c=>some (.inl c)
 |.inr a=>f a
theorem zaC{α β:Type}{x:Option (Int⊕α)}{f:α→Option (Int⊕β)}{res:Int⊕β}(h:bindX x f=some res):(∃c,x=some (.inl c)∧.inl c=res)∨∃a,x=some (.inr a)∧f a=some res:=by
 unfold bindX at h;cases x with
 |none=>cases h
 |some s=>
  cases s with
  |inl c=>exact .inl ⟨c,rfl,Option.some.inj h⟩
  |inr a=>exact .inr ⟨a,rfl,h⟩
section
variable{P:Program}{o:Oper}{ρ:Operand→Option D}{d:D}{σ:St}
theorem qz1{x:Operand}{t:TypeId}{d0:D}(e:o.op= .panic x)(j:ρ x=some (.ifc t d0)):DieS P o ρ σ (.ifc t d0):=fun K p a w hi h=>by
 have b:=h x (by rw[e];simp[Op.operands]) _ j;have c:=b;simp only[Rep]at b;obtain⟨u,hu,_⟩:=b;have hr:(execOp a.eval o).run P w= .halt (.panic (a.eval x)) w:=by
  unfold execOp;rw[e];simp[Instr.panic,hu,goPanic]
 unfold Oper.wp;rw[hr];exact⟨_,p,rfl,rfl,c,Inv.less (σ:=[]) (τ:=σ) hi,zE.refl _ _⟩
theorem qm6{x:Operand}{t:TypeId}{d0:D}{σ':St}(τ:St)(e:o.op= .panic x)(j:ρ x=some (.ifc t d0))(m:σ.Perm (τ++σ')):zcP P o ρ σ τ (.ifc t d0):=fun K p a w hi h=>by
 have b:=h x (by rw[e];simp[Op.operands]) _ j;have c:=b;simp only[Rep]at b;obtain⟨u,hu,_⟩:=b;have hr:(execOp a.eval o).run P w= .halt (.panic (a.eval x)) w:=by
  unfold execOp;rw[e];simp[Instr.panic,hu,goPanic]
 unfold Oper.wp;rw[hr];exact⟨_,p,rfl,rfl,c,Inv.less (σ:=τ) (τ:=σ') (hi.perm m),zE.refl _ _⟩
theorem qjy{x:Operand}{t:TypeId}{c:Array Field}(b:o.op= .makeInterface t x)(e:P.underlying t=some (.struct c))(j:ρ x=some d):zi P o ρ (.ifc t d):=fun σ K p a w hi h=>by
 have m:=h x (by rw[b];simp[Op.operands]) _ j;have hr:(execOp a.eval o).run P w= .ok (.value (.iface t (a.eval x))) w:=by
  unfold execOp;rw[b];simp[Instr.makeInterface,run_underlying e]
 unfold Oper.wp;rw[hr];exact⟨_,_,σ,p,rfl,⟨rfl,rfl⟩,by simp only[Rep];exact⟨_,rfl,m⟩,hi,zE.refl _ _⟩
theorem qua{f:FuncId}{m:List Value}{σ1 τ:St}{ds:List D}{K:Ctx}{p:Addr→Prop}{a:Act}{w:World}(hi:Inv K p σ w)(n:σ.Perm (σ1++τ))(q:zcE P f ds σ1 d)(r:zB p w ds m)(b:(execOp a.eval o).run P w= .ok (.enter f m.toArray) w):
 o.wp P a w (fun _ _=>False) (fun e t w'=>∃v c,e= .panic [{v,recovered:=false}]∧t=a∧Rep c w' d v∧Inv K c [] w'∧zE p w c w'):=by
 unfold Oper.wp;rw[b];refine(q w p m ((hi.perm n).enter) r).mono fun e w' hl=>?_;rcases hl with⟨_,_,_,_,_,h,_⟩|⟨v,d',σ1',c,rfl,hd,hr,j⟩
 · exact h.elim
 · have hd:d'=d:=hd
   subst hd;exact⟨v,c,rfl,rfl,hr,Inv.less (σ:=[]) (τ:=σ1'++τ) ((hi.perm n).leave (j.of (by rfl) (by rfl) (by rfl))),j.gr⟩
theorem qsa{f:FuncId}{m:List Value}{σ1 τ:St}{ds:List D}{K:Ctx}{p:Addr→Prop}{a:Act}{w:World}(hi:Inv K p σ w)(n:σ.Perm (σ1++τ))(q:zcE P f ds σ1 d)(r:zB p w ds m)(b:(execOp a.eval o).run P w= .ok (.enter f m.toArray) w):
 o.wp P a w (fun _ _=>False) (fun e t w'=>∃v c,e= .panic [{v,recovered:=false}]∧t=a∧Rep c w' d v∧Inv K c τ w'∧zE p w c w'):=by
 unfold Oper.wp;rw[b];refine(q w p m ((hi.perm n).enter) r).mono fun e w' hl=>?_;rcases hl with⟨_,_,_,_,_,h,_⟩|⟨v,d',σ1',c,rfl,hd,hr,j⟩
 · exact h.elim
 · have hd:d'=d:=hd
   subst hd;exact⟨v,c,rfl,rfl,hr,Inv.less (σ:=τ) (τ:=σ1') (((hi.perm n).leave (j.of (by rfl) (by rfl) (by rfl))).perm vH),j.gr⟩
theorem qv6{f:FuncId}{args:Array Operand}{b:Array TypeId}{σ1:St}(τ:St){ds:List D}(c:o.op= .call {callee:=.value (.func f),args:=args,argTypes:=b})(e:callee P f)(j:yZ ρ args.toList ds)(m:σ.Perm (σ1++τ))(n:zcE P f ds σ1 d):DieS P o ρ σ d:=fun K p a w hi h=>by
 have q:=j.rep (p:=p) (w:=w) (a:=a) fun x r=>h x (by rw[c];simp only[Op.operands,Call.operands];exact vI.2 (.inr (by simpa using r)));refine qua hi m n q ?_;unfold execOp;rw[c];simp only[resolve,Act.eval,Deferred.ofValue,Sem.run_bind,Sem.run_pure,Result.andThen_ok,invoke];rw[qdn e];congr 2
 apply jY.1;simp
theorem qyl{f:FuncId}{x:Operand}{args:Array Operand}{e:Array TypeId}{σ1:St}(τ:St){ds n cs all:List D}(j:o.op= .call {callee:=.value x,args:=args,argTypes:=e})(q:ρ x=some (.clo (.func f) n cs))(r:callee P f)(t:yZ ρ args.toList ds)(b:n++ds++cs=all)(u:σ.Perm (σ1++τ))(v:zcE P f all σ1 d):DieS P o ρ σ d:=fun K p a w hi h=>by
 have z:=t.rep (p:=p) (w:=w) (a:=a) fun y hy=>h y (by rw[j];simp only[Op.operands,Call.operands];exact vI.2 (.inr (by simpa using hy)));have c:=h x (by rw[j];simp[Op.operands,Call.operands]) _ q;simp only[Rep]at c;obtain⟨A,B,c,C,E⟩:=c;have m:zB p w all (A++args.toList.map a.eval++B):=by rw[←b];exact(C.app z).app E
 refine qua hi u v m ?_;unfold execOp;rw[j];simp only[resolve,c,Deferred.ofValue,Sem.run_bind,Sem.run_pure,Result.andThen_ok,invoke];rw[qdn r];congr 2
 apply jY.1;simp
theorem quH{f:FuncId}{args:Array Operand}{b:Array TypeId}{σ1:St}(τ:St){ds:List D}(c:o.op= .call {callee:=.value (.func f),args:=args,argTypes:=b})(e:callee P f)(j:yZ ρ args.toList ds)(m:σ.Perm (σ1++τ))(n:zcE P f ds σ1 d):zcP P o ρ σ τ d:=fun K p a w hi h=>by
 have q:=j.rep (p:=p) (w:=w) (a:=a) fun x r=>h x (by rw[c];simp only[Op.operands,Call.operands];exact vI.2 (.inr (by simpa using r)));refine qsa hi m n q ?_;unfold execOp;rw[c];simp only[resolve,Act.eval,Deferred.ofValue,Sem.run_bind,Sem.run_pure,Result.andThen_ok,invoke];rw[qdn e];congr 2
 apply jY.1;simp
theorem qrS{f:FuncId}{x:Operand}{args:Array Operand}{e:Array TypeId}{σ1:St}(τ:St){ds n cs all:List D}(j:o.op= .call {callee:=.value x,args:=args,argTypes:=e})(q:ρ x=some (.clo (.func f) n cs))(r:callee P f)(t:yZ ρ args.toList ds)(b:n++ds++cs=all)(u:σ.Perm (σ1++τ))(v:zcE P f all σ1 d):zcP P o ρ σ τ d:=fun K p a w hi h=>by
 have z:=t.rep (p:=p) (w:=w) (a:=a) fun y hy=>h y (by rw[j];simp only[Op.operands,Call.operands];exact vI.2 (.inr (by simpa using hy)));have c:=h x (by rw[j];simp[Op.operands,Call.operands]) _ q;simp only[Rep]at c;obtain⟨A,B,c,C,E⟩:=c;have m:zB p w all (A++args.toList.map a.eval++B):=by rw[←b];exact(C.app z).app E
 refine qsa hi u v m ?_;unfold execOp;rw[j];simp only[resolve,c,Deferred.ofValue,Sem.run_bind,Sem.run_pure,Result.andThen_ok,invoke];rw[qdn r];congr 2
 apply jY.1;simp
end
theorem qrF{P:Program}{kt:TypeId}(L:WideMaps.KeyLaw P kt)(a:(match P.underlying kt with|some (.array _ _)|some (.struct _)=>true|_=>false)=true)(hm:P.types.size+1≤10000)(j:P.keyType kt=true)(w:World){v:Value}(m:∃l,keyOf P kt v=some l):∀(es:List MapEntry)(i:Nat),(∀e∈es,∃l,keyOf P kt e.key=some l)→(Instr.findAsking kt v es i).run P w= .ok (zA v es i) w
 |[],i,_=>by simp[Instr.findAsking,zA]
 |e::es,i,h=>by
  obtain⟨lx,c⟩:=m;obtain⟨q,hy⟩:=h e (je ..);obtain⟨r,hr,b⟩:=run_equal_deep w hm j a c hy;have n:=qrF L a hm j w ⟨lx,c⟩ es (i+1) fun x c=>h x (jp _ c);simp only[Instr.findAsking,zA,Sem.run_bind,hr,Result.andThen_ok];cases r with
  |true=>
   have he:e.key=v:=L.inj (l:=lx) (by rw[hy,(b.1 rfl)]) c;simp[he]
  |false=>
   have he:e.key≠v:=fun he=>by
    rw[he,c]at hy;have:=b.2 (Option.some.inj hy);cases this
   rw[if_neg he];simpa using n
theorem zcS{P:Program}{kt:TypeId}{α:Type}{key:α→D}{vk:α→Value}(hl:laidOutB P=true)(hm:P.types.size+2≤10000)(e:kt<P.types.size)(j:P.keyType kt=true)(c:(match P.underlying kt with|some (.array _ _)|some (.struct _)=>true|_=>false)=true)
 (m:∀(p:Addr→Prop)(w:World)(a:α)(v:Value),Rep p w (key a) v→v=vk a) (n:∀(p:Addr→Prop)(w:World)(a:α)(v:Value),Rep p w (key a) v→∃l,keyOf P kt v=some l) (q:∀a b,vk a=vk b→a=b):yO P kt key vk (fun v=>∃l,keyOf P kt v=some l):=
 have L:=deep_law_gate hl hm e j c
 ⟨m,n,q,fun w em v⟨l,h⟩=>L.check w em h,fun w v es r he=>by rw[run_findKey_eq w c];exact qrF L c oa j w r es 0 he,fun w v⟨l,h⟩=>L.stays w h⟩
def zaz:D→Value |.int k n=>.int k n |.str s=>.string s |.bool b=>.bool b |_=>Go.undef
def flatK:Option TypeDesc→D→Bool |some (.int k),.int a _=>k==a |some .string,.str _=>true |some .bool,.bool _=>true |_,_=>false
def zbh(P:Program):Nat→List Field→List D→Bool |_,[],[]=>true |o,f::fs,d::ds=>(f.name != "_")&&(f.offset==o&&(P.cellsOf f.type==1&&(flatK (P.underlying f.type) d&&zbh P (o+1) fs ds))) |_,_,_=>false
theorem qoT{k:IntKind}{n:Int}(h:k.wrap n=n):(Lit.int k n).wf=true:=by
 cases k<;>simp[IntKind.wrap,IntKind.bits,IntKind.signed]at h<;>simp[Lit.wf,IntKind.min,IntKind.max,IntKind.signed,IntKind.bits]<;>first|(split at h<;>omega)|omega
theorem qre{P:Program}{p:Addr→Prop}{w:World}{D':Nat}{cs0:List Value}:∀(e:List Field)(ds:List D)(cs:List Value)(o:Nat),zbh P o e ds=true→zj p w ds cs→cs0.drop o=cs→
 cs=ds.map zaz∧∃L,e.mapM (fun f=>P.keyLits (D'+1) f.type ((cs0.drop f.offset).take (P.cellsOf f.type)))=some L
 |[],[],cs,o,_,h,_=>by
  simp only[zj]at h;exact⟨h,[],rfl⟩
 |f::e,d::ds,cs,o,j,h,hd=>by
  simp only[zbh,jk,beq_iff_eq]at j;obtain⟨_,m,q,c,r⟩:=j;simp only[zj]at h;obtain⟨v,rest,rfl,a,t⟩:=h;have one:v.cells.toList=[zaz d]∧∃l,P.keyLits (D'+1) f.type [zaz d]=some l:=by
   unfold flatK at c;split at c
   rename_i k u n hu
   have c:k=u:=by simpa using c
   subst c;simp only[Rep]at a;refine⟨by rw[a.1];simp[Value.cells,zaz],?_⟩;simp[Program.keyLits,hu,zaz,qoT a.2];rename_i s hu
   simp only[Rep]at a;refine⟨by rw[a.1];simp[Value.cells,zaz],?_⟩;have:s.size≤maxLen:=by unfold maxLen;omega
   simp[Program.keyLits,hu,zaz,this];rename_i b hu
   simp only[Rep]at a;refine⟨by rw[a];simp[Value.cells,zaz],?_⟩;simp[Program.keyLits,hu,zaz];cases c
  obtain⟨x,l,z⟩:=one;rw[x]at hd⊢;obtain⟨A,L,B⟩:=qre (P:=P) (D':=D') (cs0:=cs0) e ds rest (o+1) r t (by rw[←List.drop_drop,hd];rfl);refine⟨by rw[A];rfl,l::L,?_⟩;rw[List.mapM_cons,m,q,hd];simp only[jy,jq,vQ,vY,z];simp[B]
 |[],_::_,_,_,h,_,_=>by cases h
 |_::_,[],_,_,h,_,_=>by cases h
theorem qpp{P:Program}:∀(fs:List Field)(ds:List D)(o:Nat),zbh P o fs ds=true→(∀f∈fs,(f.name != "_")=true)∧ds.length=fs.length
 |[],[],_,_=>⟨by simp,rfl⟩
 |f::fs,d::ds,o,h=>by
  simp only[zbh,jk]at h;obtain⟨g1,g2⟩:=qpp fs ds (o+1) h.2.2.2.2;refine⟨fun x hx=>?_,by simp[g2]⟩;rcases jx.1 hx with rfl|hx
  exact h.1;exact g1 x hx
 |[],_::_,_,h=>by cases h
 |_::_,[],_,h=>by cases h
theorem quw{P:Program}{kt:TypeId}{fs:Array Field}{ds:List D}{p:Addr→Prop}{w:World}{v:Value}(hu:P.underlying kt=some (.struct fs))(hk:P.keyType kt=true)(hc:P.cellsOf kt=fs.size)(hpos:0<P.types.size)(hf:zbh P 0 fs.toList ds=true)(h:Rep p w (.agg ds) v):
 v= .agg (ds.map zaz).toArray∧∃l,keyOf P kt v=some l:=by
 simp only[Rep]at h;obtain⟨cs,rfl,h1,_⟩:=h;obtain⟨g1,L,g2⟩:=qre (P:=P) (D':=P.types.size-1) (cs0:=cs) fs.toList ds cs 0 hf h1 rfl;obtain⟨g3,g4⟩:=qpp fs.toList ds 0 hf;have hlen:cs.length=fs.size:=by rw[g1,jh,g4];simp
 refine⟨by rw[g1],?_⟩;have hd:P.types.size-1+1=P.types.size:=by omega
 rw[hd]at g2;have hall:(fs.all fun f=>f.name != "_")=true:=by
  rw[←Array.all_toList,jD];exact g3
 have hlits:P.keyLits (P.types.size+1) kt cs=some L.flatten:=by
  unfold Program.keyLits;simp only[hu];rw[if_pos ⟨by rw[hlen,hc],hall⟩,g2];rfl
 unfold keyOf;rw[hu];simp only[hk,Value.formed,hu,vp];have hs:(cs.toArray.size==P.cellsOf kt)=true:=by rw[hc];simp[hlen]
 simp only[hs,if_true,Value.cells];rw[hlits];exact⟨_,rfl⟩
section
variable{P:Program}{o:Oper}{ρ:Operand→Option D}{α:Type}[DecidableEq α]{key:α→D}
theorem qDI{t H:TypeId}{x y:Operand}{ne:Bool}{vk:α→Value}{a b:α}(z:o.op= .binOp (if ne then .neq else .eql) t x y H)(hK:yO P t key vk (fun v=>∃l,keyOf P t v=some l))(hm:P.types.size+1≤10000)(I:P.keyType t=true)(E:P.eqGuardType P.depth t=false)
 (m:(match P.underlying t with|some (.array _ _)|some (.struct _)=>true|_=>false)=true) (j:∀c,∃cs,vk c= .agg cs) (J:ρ x=some (key a)) (hy:ρ y=some (key b)) (L:WideMaps.KeyLaw P t):zi P o ρ (.bool (if ne then !decide (a=b)else decide (a=b))):=qM fun p act w h=>by
 have F:=h x (by rw[z];simp[Op.operands]) _ J;have G:=h y (by rw[z];simp[Op.operands]) _ hy;obtain⟨lx,q⟩:=hK.good _ _ _ _ F;obtain⟨M,u⟩:=hK.good _ _ _ _ G;have v1:=hK.rep _ _ _ _ F;have v2:=hK.rep _ _ _ _ G;obtain⟨r,hr,n⟩:=run_equal_deep w hm I m q u;have A:r=decide (a=b):=by
  rw[jP,n,decide_eq_true_eq];constructor;intro e;exact hK.inj _ _ (by rw[←v1,←v2];exact L.inj (l:=lx) q (by rw[u,e]));intro e;subst e;rw[v1]at q;rw[v2,q]at u;exact Option.some.inj u
 obtain⟨N,B⟩:=j a;obtain⟨O,C⟩:=j b;refine⟨.bool (if ne then !decide (a=b)else decide (a=b)),?_,by simp only[Rep]⟩;unfold execOp;rw[z];rw[v1,v2,B,C]at hr;subst A;cases ne with
 |true=>simp[v1,v2,B,C,binOp,eqGuard,E,hr]
 |false=>simp[v1,v2,B,C,binOp,eqGuard,E,hr]
end
structure zbG(P:Program)(t:TypeId){α:Type}(key:α→D)(vk:α→Value):Prop where
 ok:yO P t key vk (fun v=>∃l,keyOf P t v=some l)
 small:P.types.size+1≤10000
 kt:P.keyType t=true
 guard:P.eqGuardType P.depth t=false
 wide:(match P.underlying t with|some (.array _ _)|some (.struct _)=>true|_=>false)=true
 agg:∀c,∃cs,vk c= .agg cs
 law:WideMaps.KeyLaw P t
theorem zbG.mk'{P:Program}{t:TypeId}{α:Type}{key:α→D}{vk:α→Value}{r:Array Field}(ds:α→List D)(hl:laidOutB P=true)(hu:P.underlying t=some (.struct r))(m:P.keyType t=true)(u:P.cellsOf t=r.size)(hm:decide (P.types.size+2≤10000)=true)(n:decide (t<P.types.size)=true)(A:P.eqGuardType P.depth t=false)
 (j:∀a,key a= .agg (ds a)) (x:∀a,zbh P 0 r.toList (ds a)=true) (z:∀a,vk a= .agg ((ds a).map zaz).toArray) (hi:∀a b,vk a=vk b→a=b):zbG P t key vk:=by
 have hw:(match P.underlying t with|some (.array _ _)|some (.struct _)=>true|_=>false)=true:=by rw[hu]
 have q:=of_decide_eq_true hm;have e:=of_decide_eq_true n;refine⟨zcS hl q e m hw (fun p w a v h=>?_) (fun p w a v h=>?_) hi,by omega,m,A,hw,fun c=>⟨_,z c⟩,deep_law_gate hl q e m hw⟩
 · rw[j]at h
   rw[z];exact(quw hu m u (JV (ju _) e) (x a) h).1
 · rw[j]at h
   exact(quw hu m u (JV (ju _) e) (x a) h).2
theorem qDO{P:Program}{o:Oper}{ρ:Operand→Option D}{α:Type}[DecidableEq α]{key:α→D}{t e:TypeId}{x y:Operand}{vk:α→Value}{a b:α}(h:o.op= .binOp .eql t x y e)(c:zbG P t key vk)(j:ρ x=some (key a))(hy:ρ y=some (key b)):zi P o ρ (.bool (decide (a=b))):=
 qDI (ne:=false) h c.ok c.small c.kt c.guard c.wide c.agg j hy c.law
theorem qo6{place place':Nat→Option (Nat×Nat)}:∀(parts:List (Nat×Value))(cs:Array Value),(∀x∈parts,place x.1=place' x.1)→Instr.fill place cs parts=Instr.fill place' cs parts
 |[],cs,_=>rfl
 |(i,v)::rest,cs,h=>by
  have a:=h (i,v) (je ..);simp only at a;simp only[Instr.fill,a];cases place' i with
  |none=>rfl
  |some q=>
   obtain⟨off,size⟩:=q;simp only;split
   rfl;exact qo6 rest _ fun x b=>h x (jp _ b)
structure ArrT(P:Program)(t e:TypeId)(n:Nat):Prop where
 und:P.underlying t=some (.array n e)
 zero:(P.info? t).map (·.zero)=some (some (.agg (List.replicate n (.slice none 0 0)).toArray))
 size:(P.info? e).map (·.size)=some 1
theorem qtd:∀(n:Nat),szs (List.replicate n (D.lst []))=n
 |0=>rfl
 |n+1=>by rw[vV,szs,qtd n];simp[sz];omega
theorem qtQ:∀(n:Nat),zcs (List.replicate n (D.lst []))=List.replicate n (.slice none 0 0)
 |0=>rfl
 |n+1=>by rw[vV,zcs,qtQ n];rfl
theorem qrH:∀(n:Nat),zcc (List.replicate n (D.lst []))=true
 |0=>rfl
 |n+1=>by rw[vV,zcc,qrH n];rfl
section
variable{P:Program}{o:Oper}{ρ:Operand→Option D}
theorem qzg{t e:TypeId}{n:Nat}{parts:Array (Nat×Operand)}{j:List D}{B:List (Nat×D)}(C:o.op= .build t parts)(E:ArrT P t e n)(r:(parts.toList.all fun q=>decide (q.1<n))=true)(F:Pts ρ parts.toList B)(hF:zcH (List.replicate n (.lst [])) B j):zi P o ρ (.agg j):=qM fun p a w h=>by
 obtain⟨hu,u,hs⟩:=E;obtain⟨it,G,H⟩:=jC.1 u;obtain⟨Y,I,J⟩:=jC.1 hs;obtain⟨L,M⟩:=qqU p w (List.replicate n (D.lst [])) (qrH n);obtain⟨N,O⟩:=qn2 (p:=p) (w:=w) (a:=a) F fun x v=>h x (by rw[C];simpa[Op.operands]using v);have A:∀i z,(List.replicate n (D.lst []))[i]? =some z→(fun i=>if i<n then some (i*1,1)else none) i=some (szs ((List.replicate n (D.lst [])).take i),sz z):=fun i z u=>by
  obtain⟨hi,rfl⟩:=jd.1 u;simp only[vz]at hi;simp only[if_pos hi,List.take_replicate,qtd,List.getElem_replicate,sz];congr 2
  omega
 obtain⟨c,Q,S,U⟩:=qqo (p:=p) (w:=w) (fun i=>if i<n then some (i*1,1)else none) hF L M A (fun i off m b=>by
  by_cases hi:i<n;have b:(if i<n then some (i*1,1)else none)=some (off,m):=b;rw[if_pos hi]at b;injection b with b
  injection b with V W
  have:=qrX (List.replicate n (D.lst [])) 0 i (.lst []) (by rw[List.getElem?_replicate,if_pos hi]);rw[this,List.take_replicate,qtd,←V,←W];simp only[sz];congr 2
  omega;have b:(if i<n then some (i*1,1)else none)=some (off,m):=b;rw[if_neg hi]at b;cases b) N O
 refine⟨.agg c.toArray,?_,by simp only[Rep];exact⟨c,rfl,S,U⟩⟩;unfold execOp;rw[C];have hb:P.built t (parts.map fun(i,x)=>(i,a.eval x)).toList=some c.toArray:=by
  unfold Program.built;simp only[G,hu,H,Value.cells,I,J];rw[←Q,qtQ];refine Eq.trans (qo6 (place':=fun i=>if i<n then some (i*1,1)else none) _ _ fun x v=>?_) ?_;obtain⟨q,hq,rfl⟩:=jt.1 (by simpa using v:x∈parts.toList.map fun q=>(q.1,a.eval q.2));have:=jD.1 r q hq;rw[if_pos (of_decide_eq_true this)];congr 1
  simp
 simp[run_build w t _ _ hb]
theorem qpi{p:Addr→Prop}{w:World}:∀{ds:List D}{cs:List Value}{i:Nat}{l:List D},zj p w ds cs→(∀d∈ds,∃l,d= .lst l)→ds[i]? =some (.lst l)→∃v,cs[i]? =some v∧Rep p w (.lst l) v
 |[],_,_,_,_,_,h=>by simp at h
 |d::ds,cs,i,l,h,b,hi=>by
  simp only[zj]at h;obtain⟨v,rest,rfl,a,e⟩:=h;obtain⟨q,rfl⟩:=b d (je ..);have j:=a;simp only[Rep]at a;obtain⟨A,c,xs,rfl,_⟩:=a;cases i with
  |zero=>
   simp at hi;subst hi;exact⟨_,by simp[Value.cells],j⟩
  |succ i=>
   obtain⟨v,m,n⟩:=qpi (i:=i) e (fun d hd=>b d (jp _ hd)) (by simpa using hi);exact⟨v,by simpa[Value.cells]using m,n⟩
theorem qy2{α:Type}{f:α→List D}{t e:TypeId}{x ix:Operand}{n:Nat}{k:IntKind}{m:Int}{q:α}(l:List α)(j:o.op= .index t x ix)(B:ArrT P t e n)(u:Ty P e false 1)(C:ρ x=some (.agg (l.map fun a=>.lst (f a))))(hl:l.length=n)(r:ρ ix=some (.int k m))(hq:getI l m=some q):zi P o ρ (.lst (f q)):=qM fun p a w h=>by
 have z:=h x (by rw[j];simp[Op.operands]) _ C;have A:=h ix (by rw[j];simp[Op.operands]) _ r;simp only[Rep]at z A;obtain⟨cs,E,hr,_⟩:=z;obtain⟨F,c⟩:=qhL hq;obtain⟨v,G,H⟩:=qpi (i:=m.toNat) (l:=f q) hr (fun d hd=>by obtain⟨b,_,rfl⟩:=jt.1 hd;exact⟨_,rfl⟩) (by rw[vq,c];rfl);have hlt:m.toNat<l.length:=(jd.1 c).1;refine⟨v,?_,H⟩;unfold execOp;rw[j];have hb:0≤m∧m<(n:Int):=by omega
 simp[E,A.1,Instr.index,asIntOf,run_underlying B.und,hb,qpc u,part,qrT u,G]
end
structure ArrE(P:Program)(t e:TypeId)(n s:Nat):Prop where
 und:P.underlying t=some (.array n e)
 size:(P.info? e).map (·.size)=some s
section
variable{P:Program}{o:Oper}{ρ:Operand→Option D}
end
structure PairT(P:Program)(t e:TypeId):Prop where
 und:P.underlying t=some (.array 2 e)
 zero:(P.info? t).map (·.zero)=some (some (.agg #[.int .i64 0,.int .i64 0]))
 size:(P.info? e).map (·.size)=some 1
section
variable{P:Program}{o:Oper}{ρ:Operand→Option D}
theorem qv4{t e:TypeId}{x y:Operand}{m n:Int}(j:o.op= .build t #[(0,x),(1,y)])(q:PairT P t e)(r:ρ x=some (.int .i64 m))(hy:ρ y=some (.int .i64 n)):zi P o ρ (.agg [.int .i64 m,.int .i64 n]):=qM fun p a w h=>by
 have b:=h x (by rw[j];simp[Op.operands]) _ r;have c:=h y (by rw[j];simp[Op.operands]) _ hy;obtain⟨it,u,v⟩:=jC.1 q.zero;obtain⟨E,z,A⟩:=jC.1 q.size;have B:=b;have C:=c;simp only[Rep]at b c;refine⟨.agg #[.int .i64 m,.int .i64 n],?_,?_⟩;unfold execOp;rw[j];have hb:P.built t (#[(0,a.eval x),(1,a.eval y)]:Array (Nat×Value)).toList=some #[.int .i64 m,.int .i64 n]:=by
  unfold Program.built;simp[u,q.und,v,z,A,b.1,c.1,Value.cells,Instr.fill]
 simp[run_build w t #[(0,a.eval x),(1,a.eval y)] _ hb];simp only[Rep,zj];exact⟨[.int .i64 m,.int .i64 n],rfl,⟨.int .i64 m,[.int .i64 n],by simp[Value.cells],⟨rfl,b.2⟩,.int .i64 n,[],by simp[Value.cells],⟨rfl,c.2⟩,rfl⟩,by simp[Value.oneCell']⟩
end
theorem qv1{n:Int}(h:IntKind.u64.wrap n=n):0≤n∧n<18446744073709551616:=by
 simp[IntKind.wrap,IntKind.bits,IntKind.signed]at h;omega
def zbN(q:Int×Int):D:=.agg [.int .i64 q.1,.int .i64 q.2]
section
variable{P:Program}{o:Oper}{ρ:Operand→Option D}{α β:Type}{key:α→D}{g:β→D}
end
section
variable{P:Program}{f:FuncId}{fn:Func}{K:Ctx}{R:D→St→Prop}{k:List Item}{env:Env}{σ τ:St}
end
end
end Go.Proofs.YtgcegilpajfdhaaGreat
