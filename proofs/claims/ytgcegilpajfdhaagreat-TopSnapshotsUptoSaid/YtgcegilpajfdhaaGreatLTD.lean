/-
 Texts of the seat,merged.
-/
import Derived.Test.YtgcegilpajfdhaaGreatLTC
set_option linter.unusedVariables false
set_option linter.unusedSimpArgs false
set_option linter.unnecessarySimpa false
set_option linter.all false
set_option maxHeartbeats 8000000
namespace Go.Proofs.YtgcegilpajfdhaaGreat
open Go.Proofs.Tryz
set_option maxRecDepth 100000
open Go.RowKit
inductive Pl where
 |nil
 |cons (i:Nat) (D:List (Nat×Cls)) (next sib:Pl)
def Pl.heads:Pl→List Nat |.nil=>[] |.cons i _ _ a=>i::a.heads
def Pl.alts:Pl→List (Nat×List (Nat×Cls)×Pl) |.nil=>[] |.cons i D a b=>(i,D,a)::b.alts
def Pl.first:Pl→List (Nat×Cls) |.nil=>[] |.cons i D a _=>(i,.w)::D++a.first
def zaG(P:Program)(ops:Array Oper)(Q:Env→St→Prop):Pl→Bool→Env→St→Prop |.nil,true=>Q |.nil,false=>fun _ _=>True |.cons i D a b,_=>fun e s=>Run P ops NX (zaG P ops Q a true) ((i,.w)::D) e s∧zaG P ops Q b false e s
section
variable{P:Program}{ops:Array Oper}{Q:Env→St→Prop}
theorem qte{e:Env}{s:St}(h:Q e s):zaG P ops Q .nil true e s:=h
theorem zba{e:Env}{s:St}:zaG P ops Q .nil false e s:=trivial
theorem qiL{i:Nat}{D:List (Nat×Cls)}{a b:Pl}{f:Bool}{e:Env}{s:St}(h:Run P ops NX (zaG P ops Q a true) ((i,.w)::D) e s)(c:zaG P ops Q b false e s):zaG P ops Q (.cons i D a b) f e s:=⟨h,c⟩
theorem qtV{e:Env}{s:St}:∀{p:Pl}{f:Bool},zaG P ops Q p f e s→∀x∈p.alts,Run P ops NX (zaG P ops Q x.2.2 true) ((x.1,.w)::x.2.1) e s
 |.nil,_,_,x,a=>by cases a
 |.cons i D b c,_,h,x,a=>by
  rcases jx.1 a with rfl|a
  exact h.1;exact qtV h.2 x a
def yq(ops:Array Oper)(M:Array Nat):List (Nat×Cls)→Bool |[]=>true |x::l=>(x.2.isW||l.all fun y=>yb ops M x y)&&yq ops M l
def zbS(ops:Array Oper)(M:Array Nat)(ord:List (Nat×Cls))(H:List Nat):Bool:=(List.range ops.size).all fun k=>(ord.any fun x=>x.1==k)||((H.any fun x=>x==k)||((List.range ops.size).any fun j=>!(ord.any fun x=>x.1==j)&&(M.getD k 0).testBit j))
def okP(ops:Array Oper)(M:Array Nat):Pl→List (Nat×Cls)→List Nat→Bool→Bool |.nil,ord,_,f=>!f||(zaB ops.size ord&&yq ops M ord) |.cons i D a b,ord,H,_=>zbS ops M ord H&&(D.all fun x=>!x.2.isW)&&okP ops M a (ord++(i,.w)::D) a.heads true&&okP ops M b ord H false
def zbs(ops:Array Oper)(pre:List (Nat×Cls))(p:Pl):Bool:=zbo ops (zbR ops.size ((pre++p.first).map (·.1))) (yI ops ((pre++p.first).map (·.1)))&&zcG ops (zbR ops.size ((pre++p.first).map (·.1)))&&(pre.all fun x=>!x.2.isW)&&okP ops (yI ops ((pre++p.first).map (·.1))) p pre p.heads true
theorem qpw{M:Array Nat}:∀{p:Pl}{ord:List (Nat×Cls)}{H:List Nat},okP ops M p ord H true=true→∃ext,zaB ops.size (ord++ext)=true∧yq ops M (ord++ext)=true∧((∃i D a b,p= .cons i D a b∧∃e,ext=(i,.w)::e)∨(p= .nil∧ext=[]))
 |.nil,ord,H,h=>by
  simp only[okP,j5,vR,jk]at h;exact⟨[],by rw[jv];exact h.1,by rw[jv];exact h.2,.inr ⟨rfl,rfl⟩⟩
 |.cons i D a b,ord,H,h=>by
  simp only[okP,jk]at h;obtain⟨ext,c,d,_⟩:=qpw h.1.2;rw[jo]at c d;exact⟨_,c,d,.inl ⟨i,D,a,b,rfl,_,rfl⟩⟩
theorem qtq{M:Array Nat}:∀{p:Pl}{ord:List (Nat×Cls)}{H:List Nat}{f:Bool},okP ops M p ord H f=true→∀x∈p.alts,zbS ops M ord H=true∧(∀y∈x.2.1,y.2.isW=false)∧okP ops M x.2.2 (ord++(x.1,.w)::x.2.1) x.2.2.heads true=true
 |.nil,_,_,_,_,x,a=>by cases a
 |.cons i D b c,ord,H,f,h,x,a=>by
  simp only[okP,jk]at h;rcases jx.1 a with rfl|a
  exact⟨h.1.1.1,fun y hy=>by simpa using jD.1 h.1.1.2 y hy,h.1.2⟩;exact qtq h.2 x a
theorem qr9:∀{p:Pl}{k:Nat},k∈p.heads→∃x∈p.alts,x.1=k
 |.nil,_,h=>by cases h
 |.cons i D c d,k,h=>by
  rcases jx.1 h with rfl|h
  exact⟨_,je ..,rfl⟩;obtain⟨x,a,b⟩:=qr9 h;exact⟨x,jp _ a,b⟩
theorem qfX{M:Array Nat}:∀{l m:List (Nat×Cls)}{x y:Nat×Cls},yq ops M (l++x::m)=true→x.2.isW=false→y∈m→yb ops M x y=true
 |[],m,x,y,h,a,hy=>by
  simp only[jq,yq,a,vR,jk]at h;exact jD.1 h.1 y hy
 |z::l,m,x,y,h,a,hy=>by
  simp only[jy,yq,jk]at h;exact qfX h.2 a hy
theorem zbw{σ:St}{l:List (Nat×Cls)}{E:Env}(hq:∀x∈l,x.2.isW=false)(h:Run P ops NX Q l E σ):∃new:List PE,l=new.map (fun e=>(e.i,e.c))∧Q (yp E new) σ∧(∀d1 e d2,new=d1++e::d2→e.E=yp E d1∧ops[e.i]? =some e.o∧za3 P ops σ e∧e.c.isW=false):=by
 obtain⟨new,l',a,b,d,f⟩:=zbt (P:=P) (Q:=Q) E σ l E h;rcases f with rfl|⟨i,c,g,rfl,j⟩
 exact⟨new,by rw[a,jv],b,d⟩;have:=hq (i,c) (by rw[a];simp);rw[j]at this;cases this
structure MidP(P:Program)(ops:Array Oper)(Q:Env→St→Prop)(K:Ctx)(n:Nat)(m:Md)(M:Array Nat)(env0:Env)(done:List PE)(p:Pl)(listed:Array Bool)(σ:St)(a:Act)(w:World):Prop where
 ok:okP ops M p (done.map fun e=>(e.i,e.c)) p.heads true=true
 chain:∀d1 e d2,done=d1++e::d2→e.E=yp env0 d1∧ops[e.i]? =some e.o∧(Tof listed e.i=false→za3 P ops σ e∧e.c.isW=false)
 rest:zaG P ops Q p true (yp env0 done) σ
 new:∀k,Tof listed k=true→∃e∈done,e.i=k
 down:Down ops listed
 size:listed.size=ops.size
 good:Good K n m (zS (Tof listed) env0 done) σ a w
end
section
variable{P:Program}{ops:Array Oper}{Q:Env→St→Prop}
theorem qxZ{n:Nat}{md:Md}{K:Ctx}{g:Env}{M r:Array Nat}(hok:yw ops n=true)(hM:zbo ops r M=true)(hL:zcG ops r=true):
 ∀(fuel:Nat)(pl:Pl)(done:List PE)(b:Array Bool)(σ:St)(a:Act)(w:World),MidP P ops Q K n md M g done pl b σ a w→yG ops.size b=fuel→
  wpAnyIn (fw md.rd) 0 P .any ops (zbd P K n md NX Q) fuel b a w:=by
 intro fuel;induction fuel with
 |zero=>
  intro pl done b σ a w m h0;have W:∀i,i<ops.size→Tof b i=true:=fun i hi=>by
   cases hT:Tof b i with
   |true=>rfl
   |false=>
    have:(i,Cls.d)∈((List.range ops.size).map fun i=>(i,Cls.d)).filter fun x=>!Tof b x.1:=vS.2 ⟨jt.2 ⟨i,by simpa using hi,rfl⟩,by simp[hT]⟩;have:=List.length_pos_of_mem this;unfold yG left at h0;omega
  refine⟨?_,.inl ⟨rfl,?_⟩⟩;refine JP.2 fun i hi=>?_;obtain⟨hun,o,J,_⟩:=mem_ready.1 hi;have S:=(jL.1 J).1;have:=W i S;unfold Tof at this;have hs:i<b.size:=by rw[m.size];exact S
  simp[hs]at this hun;rw[this]at hun;cases hun;obtain⟨ext,hI,_,hext⟩:=qpw m.ok;simp only[zaB,jk,decide_eq_true_eq]at hI;obtain⟨⟨_,hI2⟩,G⟩:=hI;have hpl:pl= .nil:=by
   rcases hext with⟨i,D,nx,sb,_,e',rfl⟩|⟨h,_⟩
   exfalso;have hi:i<ops.size:=by simpa using jD.1 hI2 (i,.w) og
   obtain⟨e,he,hei⟩:=m.new i (W i hi);rw[jJ,jR]at G;exact(jT.1 G).2.2 e.i (jM he) i og hei;exact h
  obtain⟨p,g1,g2,g3,g4⟩:=m.good;have hr:=m.rest;rw[hpl]at hr;have he:zS (Tof b) g done=yp g done:=qe6 fun e he=>by
   obtain⟨d1,d2,hd⟩:=ve he;exact W e.i (jL.1 (m.chain d1 e d2 hd).2.1).1
  exact⟨_,σ,p,hr,g1,he▸g2,g3,g4⟩
 |succ fuel ih=>
  intro pl done b σ a w m h0;obtain⟨ext,hI,hP,hext⟩:=qpw m.ok;simp only[zaB,jk,decide_eq_true_eq]at hI;obtain⟨⟨hI1,hI2⟩,G⟩:=hI;obtain⟨p,g1,g2,g3,g4⟩:=m.good;have hmask:=fun k o J W j hj=>qnr (ops:=ops) hM m.down _ k o rfl J W j hj;refine⟨fun hnone=>?_,fun i hi=>?_⟩;exfalso
  -- one that has not come up, the first of them
  have hex:∃i,i<ops.size∧Tof b i=false:=by
   have:0<yG ops.size b:=by omega
   unfold yG left at this;obtain⟨x,q⟩:=List.exists_mem_of_length_pos this;obtain⟨hx1,hx2⟩:=vS.1 q;obtain⟨y,hy,rfl⟩:=jt.1 hx1;exact⟨y,by simpa using hy,by simpa using hx2⟩
  obtain⟨i,hi1,U⟩:=hex;have:∀n k,r.getD k 0=n→k<ops.size→Tof b k=false→False:=by
   intro n;induction n using Nat.strongRecOn with
   |_ n ihk=>
    intro k hkn hk1 hk2;have hr:k∈Region.ready .any ops b:=by
     refine mem_ready.2 ⟨?_,ops[k],vB hk1,fun e he hb=>?_⟩;have hs:k<b.size:=by rw[m.size];exact hk1
     unfold Tof at hk2;simp[hs]at hk2⊢;exact hk2;cases hT:Tof b e.on with
     |true=>exact hT
     |false=>
      have hl:=jD.1 hL k (by simpa using hk1);simp only[vB hk1]at hl;have:=(Array.all_eq_true_iff_forall_mem.1 hl) e he;simp only[hb,j5,vR,decide_eq_true_eq]at this;exact(ihk _ (by rw[←hkn];exact this.1) e.on rfl this.2 hT).elim
    rw[hnone]at hr;cases hr
  exact this _ i rfl hi1 U
  · obtain⟨hun,o,J,hdeps⟩:=mem_ready.1 hi
    have S:=(jL.1 J).1;have hs:i<b.size:=by rw[m.size];exact S
    have hT:Tof b i=false:=by
     unfold Tof;simp[hs]at hun⊢;exact hun
    have hdown:Down ops (b.setIfInBounds i true):=fun k o' X Y e he hb=>by
     rw[qbP hs]at Y⊢;split
     · rfl
     · by_cases hki:k=i
       · subst hki
         rw[J]at X;injection X with X
         subst X;exact hdeps e he hb
       · rw[if_neg hki]at Y
         exact m.down k o' X Y e he hb
    have hleft:=qtI (ord:=(List.range ops.size).map fun i=>(i,Cls.d)) (c:=Cls.d) (by rw[jR];have:(Prod.fst∘fun i:Nat=>(i,Cls.d))=id:=rfl;rw[this,List.map_id];exact List.nodup_range) (jt.2 ⟨i,by simpa using S,rfl⟩) hs hT
    -- who must have come up, who cannot have
    have before:∀x y:Nat×Cls,x.1<ops.size→yb ops M x y=true→y.1=i→Tof b x.1=false→x.2.isW=false∧¬(x.2= .r∧y.2.isW=true)∧yx ops x.1 y.1=true:=fun x y q hp hy C=>qh7 hp (by
     cases hb:(M.getD y.1 0).testBit x.1 with
     |false=>rfl
     |true=>
      rw[hy]at hb;rw[hmask i o J hdeps x.1 q hb]at C;cases C)
    have behind:∀x y:Nat×Cls,y.1<ops.size→yb ops M x y=true→x.1=i→Tof b y.1=true→x.2.isW=false∧¬(x.2= .r∧y.2.isW=true)∧yx ops x.1 y.1=true:=fun x y hy hp q O=>qh7 hp (by
     cases hb:(M.getD y.1 0).testBit x.1 with
     |false=>rfl
     |true=>
      have h1:=hmask y.1 _ (vB hy) (m.down y.1 _ (vB hy) O) x.1 (by rw[q];exact S) hb;rw[q,hT]at h1;cases h1)
    have I:∀{j k:Nat}{x y:Oper},yx ops j k=true→ops[j]? =some x→ops[k]? =some y→x.apart ops y=true:=fun{j k x y} h q hy=>by
     unfold yx at h;rw[q,hy]at h;exact h
    by_cases hin:∃e∈done,e.i=i
    · --it is pending
      obtain⟨e,he,hec⟩:=hin;obtain⟨d1,d2,u⟩:=ve he;obtain rfl:e.i=i:=hec;obtain⟨hE,heo,hpend⟩:=m.chain d1 e d2 u;obtain⟨hp,hcw⟩:=hpend hT;have heq:e.o=o:=by rw[heo]at J;injection J
      have hunl:∀x∈done,Tof b x.i=false→x.c.isW=false:=fun x q C=>by
       obtain⟨u1,u2,hu⟩:=ve q;exact((m.chain u1 x u2 hu).2.2 C).2
      have hpair1:∀x∈d1,Tof b x.i=false→yb ops M (x.i,x.c) (e.i,e.c)=true:=fun x q C=>by
       obtain⟨u1,u2,hu⟩:=ve q;have:yq ops M ((u1.map fun e=>(e.i,e.c))++(x.i,x.c)::((u2.map fun e=>(e.i,e.c))++(e.i,e.c)::((d2.map fun e=>(e.i,e.c))++ext)))=true:=by
        rw[←hP,u,hu];simp
       exact qfX this (hunl x (by rw[u];exact jz _ q) C) og
      have hpair2:∀x∈d2,yb ops M (e.i,e.c) (x.i,x.c)=true:=fun x q=>by
       have:yq ops M ((d1.map fun e=>(e.i,e.c))++(e.i,e.c)::((d2.map fun e=>(e.i,e.c))++ext))=true:=by
        rw[←hP,u];simp
       exact qfX this hcw (jz _ (jM q))
      have z:∀x∈done,x.i<ops.size∧ops[x.i]? =some x.o:=fun x q=>by
       obtain⟨u1,u2,hu⟩:=ve q;have:=(m.chain u1 x u2 hu).2.1;exact⟨(jL.1 this).1,this⟩
      have hin1:∀x∈d1,x∈done:=fun x q=>by rw[u];exact jz _ q
      have hin2:∀x∈d2,x∈done:=fun x q=>by rw[u];exact jB _ (jp _ q)
      have hlook:∀t∈o.looksAt ops,lk (zS (Tof b) g done) t=lk e.E t:=fun t O=>by
       rw[u,qhi];have hcons:zS (Tof b) (zS (Tof b) g d1) (e::d2)=zS (Tof b) (zS (Tof b) g d1) d2:=by simp[zS,hT]
       rw[hcons,qgT,hE]
       · refine qlB (fun x q hd=>?_) rfl
         cases C:Tof b x.i with
         |true=>rfl
         |false=>
          have:=(before (x.i,x.c) (e.i,e.c) (z x (hin1 x q)).1 (hpair1 x q C) rfl C).2.2;have h5:=I this (z x (hin1 x q)).2 J;exact absurd O ((Oper.apart_spec h5).1 t hd)
       · intro x q C hd
         have:=(behind (e.i,e.c) (x.i,x.c) (z x (hin2 x q)).1 (hpair2 x q) rfl C).2.2;have h5:=I this J (z x (hin2 x q)).2;exact(Oper.apart_spec h5).2.2 t hd O
      have L:∀t∈o.looksAt ops,∀d,lk e.E t=some d→Rep p w d (a.tmps.getD t Go.undef):=fun t O d hd=>g2 t d (by rw[hlook t O];exact hd);have hput:∀t,lk (zS (Tof (b.setIfInBounds e.i true)) g done) t=lk ((zS (Tof b) g done).put o.dst e.V) t:=fun t=>by
       have hne1:∀x∈d1,x.i≠e.i:=fun x q hxe=>by
        rw[u]at G;simp only[jJ,jm,jR]at G;have:=jT.1 (jT.1 G).1;exact this.2.2 _ (jM q) _ (je ..) hxe
       have hne2:∀x∈d2,x.i≠e.i:=fun x q hxe=>by
        rw[u]at G;simp only[jJ,jm,jR]at G;have:=(jT.1 (jT.1 G).1).2.1;simp only[vd]at this;exact this.1 (jt.2 ⟨x,q,hxe⟩)
       have e1:zS (Tof (b.setIfInBounds e.i true)) g done=zS (Tof b) ((zS (Tof b) g d1).put o.dst e.V) d2:=by
        rw[u,qhi,qe6 (T:=Tof (b.setIfInBounds e.i true)) (T':=Tof b) (l:=d1) fun x q=>by rw[qbP hs,if_neg (hne1 x q)]];have:zS (Tof (b.setIfInBounds e.i true)) (zS (Tof b) g d1) (e::d2)=zS (Tof (b.setIfInBounds e.i true)) ((zS (Tof b) g d1).put o.dst e.V) d2:=by
         simp[zS,qbP hs,heq]
        rw[this];exact qe6 fun x q=>by rw[qbP hs,if_neg (hne2 x q)]
       have e2:zS (Tof b) g done=zS (Tof b) (zS (Tof b) g d1) d2:=by
        rw[u,qhi];simp[zS,hT]
       rw[e1,e2,qe0];by_cases hd:o.dst=some t
       · rw[if_pos hd,qgT,qe0,if_pos hd]
         intro x q C hxd;have:=(behind (e.i,e.c) (x.i,x.c) (z x (hin2 x q)).1 (hpair2 x q) rfl C).2.2;have h5:=I this J (z x (hin2 x q)).2;exact(Oper.apart_spec h5).2.1 t hd hxd
       · rw[if_neg hd]
         have gen:∀(m:List PE)(A B:Env),lk A t=lk B t→lk (zS (Tof b) A m) t=lk (zS (Tof b) B m) t:=by
          intro m;induction m with
          |nil=>exact fun A B h=>h
          |cons x m ihm=>
           intro A B h;simp only[zS,vj];refine ihm _ _ ?_;split
           · simp only[qe0];split<;>simp[h]
           · exact h
         exact gen d2 _ _ (by rw[qe0,if_neg hd])
      have next:∀(a':Act)(w':World)(p':Addr→Prop)(v:Value),a'=a.put o.dst v→Rep p' w' e.V v→Inv K p' σ w'→zE p w p' w'→MidP P ops Q K n md M g done pl (b.setIfInBounds e.i true) σ a' w':=fun a' w' p' v N hv U hg=>by
       refine⟨m.ok,fun u1 x u2 hu=>?_,m.rest,fun k Y=>?_,hdown,by simpa using m.size,⟨p',U,fun t d O=>?_,?_,?_⟩⟩
       · obtain⟨q1,q2,q3⟩:=m.chain u1 x u2 hu
         refine⟨q1,q2,fun C=>q3 ?_⟩;rw[qbP hs]at C;split at C
         · cases C
         · exact C
       · rw[qbP hs]at Y
         split at Y
         · rename_i hke
           exact⟨e,he,hke.symm⟩
         · exact m.new k Y
       · rw[hput t]at O
         have hr':=(g2.grow hg).put (dst:=o.dst) hv fun t O=>vi (qhX hok J t O) g3;rw[N];exact hr' t d O
       · rw[N,qjM];exact g3
       · rw[N,qeV];exact g4
      unfold wpOpIn;simp only[J];have hlf:yG ops.size (b.setIfInBounds e.i true)=fuel:=by unfold yG at h0⊢;omega
      rcases hp with⟨hw,hV⟩|⟨hw,hp⟩
      · rw[heq]at hw
        rw[qdU L hw];simp only[va,if_false];exact⟨fun f _=>ql0 _ f,ih _ _ _ _ _ _ (next _ w p Go.undef rfl (by rw[hV];simp only[Rep]) g1 (zE.refl p w)) hlf⟩
      · rw[heq]at hw
        rw[qdU L hw];simp only[if_true];have hst:zp P o (ev e.E) σ fun d' σ'=>d'=e.V∧σ'=σ:=by
         rw[←heq];rcases hp with⟨_,hp⟩|⟨_,hp⟩
         · exact hp σ
         · exact hp
        refine qix (fun a' w' hh=>?_) (fun _ _ _ hh=>hh.elim) (hst.y md.rd K p a w g1 (qkt hok J L));obtain⟨v,d,σ',p',N,⟨rfl,rfl⟩,hv,U,hg⟩:=hh;exact ih _ _ _ _ _ _ (next a' w' p' v N hv U hg) hlf
    · --it is the next one of our plan
      obtain⟨x,q,hxi⟩:∃x∈pl.alts,x.1=i:=by
       have hno:∀j,j<ops.size→(∀e∈done,e.i≠j)→(done.map fun e=>(e.i,e.c)).any (fun x=>x.1==j)=false:=fun j _ hj=>by
        rw[List.any_eq_false];intro y hy;obtain⟨e,he,rfl⟩:=jt.1 hy;simpa using hj e he
       have hni:∀e∈done,e.i≠i:=fun e he hei=>hin ⟨e,he,hei⟩;rcases hext with⟨i0,D0,nx0,sb0,rfl,_⟩|⟨_,rfl⟩
       · have hcov:=(qtq m.ok (i0,D0,nx0) (je ..)).1
         have h1:=jD.1 hcov i (by simpa using S);rw[hno i S hni,vR,Jq]at h1;rcases h1 with h1|h1
         · obtain⟨k,Y,hki⟩:=vC.1 h1
           obtain rfl:k=i:=beq_iff_eq.1 hki;exact qr9 Y
         · exfalso
           obtain⟨j,hj,hb⟩:=vC.1 h1;have hj:j<ops.size:=by simpa using hj
           rw[jk,Bool.not_eq_true']at hb;obtain⟨e,he,hej⟩:=m.new j (hmask i o J hdeps j hj hb.2);have:=List.any_eq_false.1 hb.1 (e.i,e.c) (jM he);simp[hej]at this
       · exfalso
         obtain⟨y,hy,hyi⟩:=vC.1 (jD.1 hI1 i (by simpa using S));rw[jv]at hy;obtain⟨e,he,rfl⟩:=jt.1 hy;exact hni e he (beq_iff_eq.1 hyi)
      obtain⟨i0,Dq,nx⟩:=x;simp only at hxi;subst hxi;obtain⟨_,hDq,hokn⟩:=qtq m.ok _ q;simp only at hDq hokn;have F:=qtV m.rest _ q;simp only at F;clear hP hI1 hI2 G hext;obtain⟨ext,hI,hP,_⟩:=qpw hokn;simp only[zaB,jk,decide_eq_true_eq]at hI;obtain⟨⟨hI1,hI2⟩,G⟩:=hI;have hunl:∀x∈done,Tof b x.i=false→x.c.isW=false:=fun x q C=>by
       obtain⟨u1,u2,hu⟩:=ve q;exact((m.chain u1 x u2 hu).2.2 C).2
      have hpair:∀x∈done,Tof b x.i=false→yb ops M (x.i,x.c) (i0,.w)=true:=fun x q C=>by
       obtain⟨u1,u2,hu⟩:=ve q;have:yq ops M ((u1.map fun e=>(e.i,e.c))++(x.i,x.c)::((u2.map fun e=>(e.i,e.c))++(i0,.w)::(Dq++ext)))=true:=by
        rw[←hP,hu];simp
       exact qfX this (hunl x q C) og
      have z:∀x∈done,x.i<ops.size∧ops[x.i]? =some x.o:=fun x q=>by
       obtain⟨u1,u2,hu⟩:=ve q;have:=(m.chain u1 x u2 hu).2.1;exact⟨(jL.1 this).1,this⟩
      have hne:∀x∈done,x.i≠i0:=fun x q hxe=>hin ⟨x,q,hxe⟩;have hlook:∀t∈o.looksAt ops,lk (zS (Tof b) g done) t=lk (yp g done) t:=fun t O=>
       qlB (fun x q hd=>by
        cases C:Tof b x.i with
        |true=>rfl
        |false=>
         have:=(before (x.i,x.c) (i0,.w) (z x q).1 (hpair x q C) rfl C).2.2;have h5:=I this (z x q).2 J;exact absurd O ((Oper.apart_spec h5).1 t hd)) rfl
      have L:∀t∈o.looksAt ops,∀d,lk (yp g done) t=some d→Rep p w d (a.tmps.getD t Go.undef):=fun t O d hd=>g2 t d (by rw[hlook t O];exact hd);have next:∀(a':Act)(w':World)(p':Addr→Prop)(v:Value)(V:D)(σ':St),a'=a.put o.dst v→Rep p' w' V v→Inv K p' σ' w'→zE p w p' w'→Run P ops NX (zaG P ops Q nx true) Dq ((yp g done).put o.dst V) σ'→
       ∃done',MidP P ops Q K n md M g done' nx (b.setIfInBounds i0 true) σ' a' w':=fun a' w' p' v V σ' N hv U hg F=>by
       obtain⟨new,h1,h2,h3⟩:=zbw hDq F;have heA:yp g (done++[⟨i0,.w,o,yp g done,V⟩])=(yp g done).put o.dst V:=by simp[zS]
       have hnd':(done.map (fun e=>e.i)++i0::(new.map (fun e=>e.i)++ext.map (·.1))).Nodup:=by
        have:=G;rw[h1]at this;simpa[jR,Function.comp_def]using this
       have hnd2:=jT.1 hnd';have hnd3:=vd.1 hnd2.2.1;have hnewf:∀x∈new,Tof (b.setIfInBounds i0 true) x.i=false:=fun x q=>by
        have hxi:x.i≠i0:=fun e=>hnd3.1 (by rw[←e];exact jz _ (jM q));rw[qbP hs,if_neg hxi];cases hT2:Tof b x.i with
        |false=>rfl
        |true=>
         obtain⟨e,he,hei⟩:=m.new x.i hT2;exact absurd hei (hnd2.2.2 e.i (jM he) x.i (jp _ (jz _ (jM q))))
       refine⟨done++⟨i0,.w,o,yp g done,V⟩::new,⟨by have:=hokn;rw[h1]at this;simpa using this,fun u1 x u2 hu=>?_,?_,fun k Y=>?_,hdown,by simpa using m.size,⟨p',U,fun t d O=>?_,?_,?_⟩⟩⟩
       · --the chain
         rcases List.append_eq_append_iff.1 hu with⟨v1,Z,H⟩|⟨v1,Z,H⟩
         · cases v1 with
           |nil=>
            simp only[jq,List.cons.injEq]at H;obtain⟨rfl,rfl⟩:=H;simp only[jv]at Z;subst Z;exact⟨rfl,J,fun C=>by rw[qbP hs,if_pos rfl]at C;cases C⟩
           |cons y v1=>
            simp only[jy,List.cons.injEq]at H;obtain⟨rfl,H⟩:=H;obtain⟨q1,q2,q3,q4⟩:=h3 v1 x u2 H;refine⟨?_,q2,fun _=>⟨q3,q4⟩⟩;rw[q1,Z];simp[zS]
         · cases v1 with
           |nil=>
            simp only[jq,List.cons.injEq]at H;obtain⟨rfl,rfl⟩:=H;simp only[jv]at Z;subst Z;exact⟨rfl,J,fun C=>by rw[qbP hs,if_pos rfl]at C;cases C⟩
           |cons y v1=>
            simp only[jy,List.cons.injEq]at H;obtain⟨rfl,H⟩:=H;have hxin:x∈done:=by rw[Z];simp
            obtain⟨q1,q2,q3⟩:=m.chain u1 x v1 Z;refine⟨q1,q2,fun C=>?_⟩;rw[qbP hs,if_neg (hne x hxin)]at C;obtain⟨q4,q5⟩:=q3 C;refine⟨?_,q5⟩;have hnr:=(before (x.i,x.c) (i0,.w) (z x hxin).1 (hpair x hxin C) rfl C).2.1;rcases q4 with q4|⟨q4,q6⟩
            · exact .inl q4
            · refine .inr ⟨q4,?_⟩
              rcases q6 with q6|⟨q6,_⟩
              · exact .inl q6
              · exact absurd ⟨q6,rfl⟩ hnr
       · have hee:yp g (done++(⟨i0,.w,o,yp g done,V⟩:PE)::new)=yp ((yp g done).put o.dst V) new:=by
          rw[←heA];simp[zS]
         rw[hee];exact h2
       · rw[qbP hs]at Y
         split at Y
         · rename_i hke
           exact⟨⟨i0,.w,o,yp g done,V⟩,by simp,hke.symm⟩
         · obtain⟨e,he,hek⟩:=m.new k Y
           exact⟨e,jz _ he,hek⟩
       · have hT':∀x∈done,Tof (b.setIfInBounds i0 true) x.i=Tof b x.i:=fun x q=>by rw[qbP hs,if_neg (hne x q)]
         rw[qhi,qe6 hT']at O;have hcons:zS (Tof (b.setIfInBounds i0 true)) (zS (Tof b) g done) (⟨i0,.w,o,yp g done,V⟩::new)=zS (Tof (b.setIfInBounds i0 true)) ((zS (Tof b) g done).put o.dst V) new:=by simp[zS,qbP hs]
         rw[hcons,qgT (fun x q C=>by rw[hnewf x q]at C;cases C)]at O;have hr':=(g2.grow hg).put (dst:=o.dst) hv fun t O=>vi (qhX hok J t O) g3;rw[N];exact hr' t d O
       · rw[N,qjM];exact g3
       · rw[N,qeV];exact g4
      have hlf:yG ops.size (b.setIfInBounds i0 true)=fuel:=by unfold yG at h0⊢;omega
      unfold wpOpIn;simp only[J];obtain⟨o',X,F⟩:=F;obtain rfl:o'=o:=by rw[J]at X;injection X with h;exact h.symm
      have F:(yW ops (yp g done) o'=some false∧Run P ops NX (zaG P ops Q nx true) Dq ((yp g done).put o'.dst .undef) σ)∨(yW ops (yp g done) o'=some true∧∃R,za5 P o' (ev (yp g done)) σ R∧∀d σ',R d σ'→Run P ops NX (zaG P ops Q nx true) Dq ((yp g done).put o'.dst d) σ'):=by
       rcases F with F|F|⟨_,_,_,_,_,q,_⟩
       · exact .inl F
       · exact .inr F
       · exact q.elim
      rcases F with⟨hw,Y⟩|⟨hw,R,hst,Y⟩
      · rw[qdU L hw]
        simp only[va,if_false];obtain⟨done',hm⟩:=next _ w p Go.undef .undef σ rfl (by simp only[Rep]) g1 (zE.refl p w) Y
        exact⟨fun f _=>ql0 _ f,ih _ _ _ _ _ _ hm hlf⟩
      · rw[qdU L hw]
        simp only[if_true];refine qix (fun a' w' hh=>?_) (fun _ _ _ hh=>hh.elim) (hst md.rd K p a w g1 (qkt hok J L));obtain⟨v,d,σ',p',N,hR,hv,U,hg⟩:=hh;obtain⟨done',hm⟩:=next a' w' p' v d σ' N hv U hg (Y d σ' hR)
        exact ih _ _ _ _ _ _ hm hlf
theorem qAo{n:Nat}{md:Md}{K:Ctx}{env:Env}{σ:St}(f:yw ops n=true)(pre:List (Nat×Cls))(pl:Pl)(g:zbs ops pre pl=true)(h:Run P ops NX (zaG P ops Q pl true) pre env σ)
 {p:Addr→Prop} {a:Act} {w:World} (hi:Inv K p σ w) (hr:zD p w env a) (hn:n≤a.tmps.size) (hd:a.defers=md.marks):
 wpAnyIn (fw md.rd) 0 P .any ops (zbd P K n md NX Q) ops.size (Array.replicate ops.size false) a w:=by
 simp only[zbs,jk]at g;obtain⟨⟨⟨l,q⟩,hq⟩,r⟩:=g;obtain⟨new,t,u,v⟩:=zbw (fun x z=>by simpa using jD.1 hq x z) h;have d:∀i,Tof (Array.replicate ops.size false) i=false:=fun i=>by
  unfold Tof;rw[Array.getD_eq_getD_getElem?,Array.getElem?_replicate];split<;>rfl
 have b:yG ops.size (Array.replicate ops.size false)=ops.size:=by
  unfold yG left;rw[List.filter_eq_self.2 fun x _=>by rw[d];rfl];simp
 refine qxZ (P:=P) (Q:=Q) (K:=K) (n:=n) f l q _ pl new _ σ a w ⟨by rw[←t];exact r,fun d1 e d2 A=>?_,u,fun k c=>?_,fun G o _ c=>?_,by simp,⟨p,hi,?_,hn,hd⟩⟩ b
 · obtain⟨B,C,E,F⟩:=v d1 e d2 A
   exact⟨B,C,fun _=>⟨E,F⟩⟩
 · rw[d]at c;cases c
 · rw[d]at c;cases c
 · have:zS (Tof (Array.replicate ops.size false)) env new=env:=by
    have:∀(m:List PE),zS (Tof (Array.replicate ops.size false)) env m=env:=by
     intro m;induction m with
     |nil=>rfl
     |cons x m j=>simp only[zS,vj,d,va,if_false]at j⊢;exact j
    exact this new
   rw[this];exact hr
theorem qt9{m:Md}{f:FuncId}{fn:Func}{K:Ctx}{R:D→St→Prop}{k:List Item}{env:Env}{σ:St}{id:Nat}{l:List Oper}(hm:P.follows .mixedOrders=true)(b:yw l.toArray fn.ntmps=true)(pre:List (Nat×Cls))(pl:Pl)(c:zbs l.toArray pre pl=true)(J:Env→St→Prop)
 (h:Run P l.toArray NX (zaG P l.toArray J pl true) pre env σ) (d:∀e s,J e s→ze m P f fn K R k e s):ze m P f fn K R (.code (.region id l.toArray true)::k) env σ:=
 qlz (Q:=J) (X:=NX) (fun p a w hi hr hn hd=>wpIn_region_any hm (qAo (md:=m) (P:=P) (Q:=J) (K:=K) (n:=fn.ntmps) b pre pl c h hi.drew (hr.grow (qdu p w)) hn hd)) (fun _ _ _ h=>h.elim) d
end
def zt(x:Int×At):D:=.agg [.int .i64 x.1,zK x.2]
def zM(_:Unit):D:=.agg []
theorem qn7(a:At):sz (zK a)=2:=rfl
theorem qnx(a:Gl):sz (zG a)=3:=rfl
theorem qyP(x:Int×At):sz (zt x)=3:=rfl
class TyI(P:Program)(t:TypeId)(b:outParam Bool)(n:outParam Nat):Prop where
 h:Ty P t b n
class FlI(P:Program)(s:TypeId)(f:Nat)(off:outParam Nat):Prop where
 h:Fld P s f off
class ElI(P:Program)(t:TypeId)(e:outParam TypeId)(s by_:outParam Nat):Prop where
 h:ElT P t e s by_
class ZvI(P:Program)(t:TypeId)(d:outParam D):Prop where
 h:yv P t d
class BtI(P:Program)(t:TypeId)(zs:outParam (List D)):Prop where
 h:yB P t zs
class CaI(P:Program)(f:FuncId):Prop where
 h:callee P f
class EF(P:Program)(e:TypeId)(α:outParam Type)(f:outParam (α→D))(s:outParam Nat):Prop where
 h:∀a,sz (f a)=s
 p:∀a,(f a).plain=true
class SzI(d:D)(n:outParam Nat):Prop where
 h:sz d=n
instance(k:IntKind)(n:Int):SzI (.int k n) 1:=⟨rfl⟩
instance(l:List D):SzI (.lst l) 1:=⟨rfl⟩
instance(u:Value)(l:List D):SzI (.own u l) 1:=⟨rfl⟩
instance(b:Int×T):SzI (zw b) 5:=⟨qfp b⟩
instance:SzI (.agg []) 0:=⟨rfl⟩
instance{d:D}{ds:List D}{n m:Nat}[h:SzI d n][k:SzI (.agg ds) m]:SzI (.agg (d::ds)) (n+m):=⟨by
 show sz d+szs ds=n+m;rw[h.h,show szs ds=m from k.h]⟩
structure Bo(A B:Prop):Prop where
 a:A
 b:B
def yV{α:Type}:List (Nat×α)→Nat→Option α
 |[],_=>none
 |(i,h)::l,j=>match jX i j with
  |true=>some h
  |false=>yV l j
theorem qqc{α:Type}{j:Nat}{x:α}:∀{l:List (Nat×α)},yV l j=some x→(j,x)∈l
 |[],h=>by cases h
 |(i,y)::l,h=>by
  unfold yV at h;split at h
  rename_i hb
  cases h;rw[Nat.eq_of_beq_eq_true hb];exact je ..;exact jp _ (qqc h)
def ttOk(P:Program)(a:List (Nat×Bool×Nat)):Bool:=a.all fun x=>match P.underlying x.1,P.info? x.1 with
 |some d,some i=>zaw d==x.2.1&&i.size==x.2.2
 |_,_=>false
def ftOk(P:Program)(a:List (Nat×List Nat)):Bool:=a.all fun x=>match P.underlying x.1 with
 |some (.struct fields)=>(List.range x.2.length).all fun f=>match fields[f]? with
  |some fld=>fld.offset==x.2.getD f 0&&(match P.info? fld.type with|some i=>i.size !=0|none=>false)
  |none=>false
 |_=>false
class Tabs(P:Program)(TT:outParam (List (Nat×Bool×Nat)))(FT:outParam (List (Nat×List Nat)))(tm:outParam Nat):Prop where
 t:ttOk P TT=true
 f:ftOk P FT=true
theorem Tabs.ty{P:Program}{a:List (Nat×Bool×Nat)}{c:List (Nat×List Nat)}{tm:Nat}(h:Tabs P a c tm){t n:Nat}{b:Bool}(e:yV a t=some (b,n)):Ty P t b n:=by
 have:=jD.1 h.t _ (qqc e);simp only at this;split at this
 rename_i d i hd hi
 simp only[jk,beq_iff_eq]at this;exact⟨⟨d,hd,this.1⟩,by rw[hi];simp[this.2]⟩;cases this
theorem Tabs.fld{P:Program}{g:List (Nat×Bool×Nat)}{c:List (Nat×List Nat)}{tm:Nat}(h:Tabs P g c tm){s f off:Nat}{a:List Nat}(e:yV c s=some a)(d:a[f]? =some off):Fld P s f off:=by
 have:=jD.1 h.f _ (qqc e);simp only at this;split at this
 rename_i fields hd
 have hl:=(jd.1 d).1;have:=jD.1 this f (by simpa using hl);split at this
 rename_i fld j
 simp only[jk,beq_iff_eq]at this;obtain⟨l,b⟩:=this;split at b
 rename_i i hi
 simp only[bne_iff_ne,ne_eq]at b;refine⟨fields,fld,i.size,hd,j,?_,by rw[hi];rfl,b⟩;rw[l,List.getD_eq_getElem?_getD,d];rfl;cases b;cases this;cases this
theorem szT{d:D}{n m:Nat}[h:SzI d n](e:n=m):sz d=m:=h.h.trans e
theorem szA{d:D}{n:Nat}(h:sz d=n:=by first|exact rfl|exact szT rfl):sz d=n:=h
def zo(l:List (Nat×Bool×Nat))(g:List (Nat×List Nat))(tm:Nat)(o:Oper)(env:Env):Option (D×Prop):=match o.op with
 |.move x=>match ev env x with
  |some d=>some (d,True)
  |none=>none
 |.assign x=>match ev env x with
  |some d=>some (d,True)
  |none=>none
 |.extract x j=>match ev env x with
  |some (.tup ds)=>match ds[j]? with
   |some d=>some (d,True)
   |none=>none
  |_=>none
 |.unOp .not _ x=>match ev env x with
  |some (.bool b)=>some (.bool (!b),True)
  |_=>none
 |.pick c x y=>match ev env c with
  |some (.bool true)=>match ev env x with
   |some d=>some (d,True)
   |none=>none
  |some (.bool false)=>match ev env y with
   |some d=>some (d,True)
   |none=>none
  |_=>none
 |.binOp op _ x y _=>match ev env x with
  |some (.int k m)=>match ev env y with
   |some (.int p n)=>if k=p then match icmp op m n with
    |some b=>some (.bool b,True)
    |none=>none else none
   |_=>none
  |some (.str m)=>match ev env y with
   |some (.str n)=>match scmp op m n with
    |some b=>some (.bool b,True)
    |none=>none
   |_=>none
  |_=>none
 |.load t x=>match ev env x with
  |some (.ptr d)=>match yV l t with
   |some (b,n)=>match b==d.isAgg with
    |true=>some (d,sz d=n)
    |false=>none
   |none=>none
  |_=>none
 |.fieldAddr s x f=>match jX s tm with
  |true=>none
  |false=>match ev env x with
   |some (.ptr (.agg h))=>match h[f]? with
    |some d=>match yV g s with
     |some a=>match a[f]? with
      |some off=>match d.plain with
       |true=>some (.ptr d,szs (h.take f)=off)
       |false=>none
      |none=>none
     |none=>none
    |none=>none
   |some (.ref b e path)=>match yV g s with
    |some a=>match a[f]? with
     |some off=>some (.ref b (e+off) (path++[f]),True)
     |none=>none
    |none=>none
   |_=>none
 |.nilCheck x=>match ev env x with
  |some (.ref b e path)=>some (.ref b e path,True)
  |some (.ptr d)=>some (.ptr d,True)
  |_=>none
 |_=>none
theorem qt3{P:Program}{TT:List (Nat×Bool×Nat)}{FT:List (Nat×List Nat)}{tm:Nat}(hT:Tabs P TT FT tm){o:Oper}{env:Env}{d:D}{C:Prop}(h:zo TT FT tm o env=some (d,C))(hc:C):zi P o (ev env) d:=by
 unfold zo at h;split at h
 rename_i x ho
 split at h
 rename_i e hx
 cases h;exact qn ho hx;cases h;rename_i x ho
 split at h
 rename_i e hx
 cases h;exact qm ho hx;cases h;rename_i x j ho
 split at h
 rename_i ds hx
 split at h
 rename_i e he
 cases h;exact qec ho hx he;cases h;cases h;rename_i t x ho
 split at h
 rename_i b hx
 cases h;exact ql8 ho hx;cases h;rename_i c x y ho
 split at h
 rename_i hcc
 split at h
 rename_i e hx
 cases h;exact qiU ho hcc hx;cases h;rename_i hcc
 split at h
 rename_i e hx
 cases h;exact qhu ho hcc hx;cases h;cases h;rename_i op t x y t' ho
 split at h
 rename_i k m hx
 split at h
 rename_i k' n hy
 split at h
 rename_i hk
 subst hk;split at h
 rename_i b hb
 cases h;exact qcs ho hx hy hb;cases h;cases h;cases h;rename_i m hx
 split at h
 rename_i n hy
 split at h
 rename_i b hb
 cases h;exact qnC ho hx hy hb;cases h;cases h;cases h;rename_i t x ho
 split at h
 rename_i e hx
 split at h
 rename_i b n hb
 split at h
 rename_i hba
 cases h;refine qak ho hx ?_ hc;rw[←beq_iff_eq.1 hba];exact hT.ty hb;cases h;cases h;cases h;rename_i s x f ho
 split at h
 cases h;split at h
 rename_i fs hx
 split at h
 rename_i e he
 split at h
 rename_i offs ho1
 split at h
 rename_i off ho2
 split at h
 rename_i hp
 cases h;exact qan ho (hT.fld ho1 ho2) hx he hc hp;cases h;cases h;cases h;cases h;rename_i b ofs path hx
 split at h
 rename_i offs ho1
 split at h
 rename_i off ho2
 cases h;exact qjO ho (hT.fld ho1 ho2) hx;cases h;cases h;cases h;rename_i x ho
 split at h
 rename_i b ofs path hx
 cases h;exact qkO ho hx;rename_i e hx
 cases h;exact qtk ho hx;cases h;cases h
section
variable{P:Program}{X:Env→D→St→Prop}{Q:Env→St→Prop}{l:List Oper}{i:Nat}{c:Cls}{o:Oper}{t:Nat}{d:D}{env:Env}{σ:St}{rest:List (Nat×Cls)}
theorem z_d(hi:l[i]? =some o)(a:o.dst=some t)(hw:z7 l env o=some true)(hs:zi P o (ev env) d)(h:Run P l.toArray X Q rest ((t,d)::env) σ):Run P l.toArray X Q ((i,c)::rest) env σ:=by
 cases c with
 |d=>exact r_d hi a hw hs h
 |r=>exact r_r hi a hw (hs σ) h
 |w=>exact r_w1 hi a hw (hs σ) h
 |x=>exact r_xr hi a hw (hs σ) h
def Cls.isR:Cls→Bool |.d=>false |_=>true
theorem z_r(b:c.isR=true)(hi:l[i]? =some o)(a:o.dst=some t)(hw:z7 l env o=some true)(hs:zp P o (ev env) σ fun d' σ'=>d'=d∧σ'=σ)(h:Run P l.toArray X Q rest ((t,d)::env) σ):Run P l.toArray X Q ((i,c)::rest) env σ:=by
 cases c with
 |d=>cases b
 |r=>exact r_r hi a hw hs h
 |w=>exact r_wr hi a hw hs h
 |x=>exact r_xr hi a hw hs h
theorem z_w{R:D→St→Prop}(a:c.isW=true)(hi:l[i]? =some o)(b:o.dst=some t)(hw:z7 l env o=some true)(hs:zp P o (ev env) σ R)(h:∀d σ',R d σ'→Run P l.toArray X Q rest ((t,d)::env) σ'):Run P l.toArray X Q ((i,c)::rest) env σ:=by
 cases c with
 |d=>cases a
 |r=>cases a
 |w=>exact r_w hi b hw hs h
 |x=>exact r_x hi b hw hs h
theorem zcl{R:D→St→Prop}(a:c.isW=true)(hi:l[i]? =some o)(b:o.dst=none)(hw:z7 l env o=some true)(hs:zp P o (ev env) σ R)(h:∀d σ',R d σ'→Run P l.toArray X Q rest env σ'):Run P l.toArray X Q ((i,c)::rest) env σ:=by
 cases c with
 |d=>cases a
 |r=>cases a
 |w=>exact r_w0 hi b hw hs h
 |x=>exact r_x0 hi b hw hs h
def zcw(st:List Nat)(o:Oper):Bool:=match o.dst with
 |some t=>match o.op with
  |.move (.const _)=>st.any (jX t)
  |.assign (.const _)=>st.any (jX t)
  |_=>false
 |none=>false
def knG(l:List Oper)(a:List Nat)(o:Oper):Bool:=match o.guard with
 |none=>true
 |some (j,_)=>match l[j]? with
  |some o'=>match o'.dst with
   |some s=>a.any (jX s)
   |none=>false
  |none=>false
inductive ZR where
 |mk (r:List (Nat×Cls)) (e:Env) (C:Prop)
 |no
def zr(a:List (Nat×Bool×Nat))(b:List (Nat×List Nat))(tm:Nat)(l:List Oper)(st f:List Nat):Nat→List (Nat×Cls)→Env→Prop→ZR
 |0,r,e,C=>.mk r e C
 |_+1,[],e,C=>.mk [] e C
 |n+1,(i,c)::r,e,C=>match l[i]? with
  |none=>.mk ((i,c)::r) e C
  |some o=>match knG l f o with
   |false=>.mk ((i,c)::r) e C
   |true=>match z7 l e o with
    |none=>.mk ((i,c)::r) e C
    |some false=>match o.dst with
     |some t=>zr a b tm l st f n r ((t,.undef)::e) C
     |none=>zr a b tm l st f n r e C
    |some true=>match o.dst with
     |none=>.mk ((i,c)::r) e C
     |some t=>match zcw st o with
      |true=>.mk ((i,c)::r) e C
      |false=>match zo a b tm o e with
       |some (d,g)=>zr a b tm l st f n r ((t,d)::e) (Bo C g)
       |none=>.mk ((i,c)::r) e C
theorem qjS{z:List (Nat×Bool×Nat)}{A:List (Nat×List Nat)}{tm:Nat}(q:Tabs P z A tm){u:List (Nat×Cls)}{v:Env}{w:Prop}{st B:List Nat}(f:Run P l.toArray X Q u v σ)(g:w):∀(n:Nat)(r:List (Nat×Cls))(e:Env)(C:Prop),zr z A tm l st B n r e C= .mk u v w→C∧Run P l.toArray X Q r e σ
 |0,r,e,C,h=>by
  simp only[zr,ZR.mk.injEq]at h;obtain⟨rfl,rfl,rfl⟩:=h;exact⟨g,f⟩
 |n+1,[],e,C,h=>by
  simp only[zr,ZR.mk.injEq]at h;obtain⟨rfl,rfl,rfl⟩:=h;exact⟨g,f⟩
 |n+1,(i,c)::r,e,C,h=>by
  have stay:ZR.mk ((i,c)::r) e C= .mk u v w→C∧Run P l.toArray X Q ((i,c)::r) e σ:=fun h=>by
   simp only[ZR.mk.injEq]at h;obtain⟨rfl,rfl,rfl⟩:=h;exact⟨g,f⟩
  simp only[zr]at h;split at h
  exact stay h;rename_i o x
  split at h
  exact stay h;split at h
  exact stay h;rename_i hw
  split at h
  rename_i t m
  obtain⟨j,p⟩:=qjS q f g n r _ C h;exact⟨j,qbJ x m hw p⟩;rename_i m
  obtain⟨j,p⟩:=qjS q f g n r _ C h;exact⟨j,qvN x m hw p⟩;rename_i hw
  split at h
  exact stay h;rename_i t m
  split at h
  exact stay h;split at h
  rename_i d E F
  obtain⟨j,p⟩:=qjS q f g n r _ (Bo C E) h;exact⟨j.a,z_d x m hw (qt3 q F j.b) p⟩;exact stay h
def zq(a:List (Nat×Bool×Nat))(b:List (Nat×List Nat))(tm:Nat)(l:List Oper)(st f:List Nat):List (Nat×Cls)→Env→ZR
 |[],_=>.no
 |(i,_)::r,e=>match l[i]? with
  |none=>.no
  |some o=>match knG l f o with
   |false=>.no
   |true=>match z7 l e o with
    |none=>.no
    |some false=>match o.dst with
     |some t=>zr a b tm l st f 200 r ((t,.undef)::e) True
     |none=>zr a b tm l st f 200 r e True
    |some true=>match o.dst with
     |none=>.no
     |some t=>match zcw st o with
      |true=>.no
      |false=>match zo a b tm o e with
       |some (d,g)=>zr a b tm l st f 200 r ((t,d)::e) (Bo True g)
       |none=>.no
theorem qtN{n:List (Nat×Bool×Nat)}{p:List (Nat×List Nat)}{tm:Nat}(f:Tabs P n p tm){r q:List (Nat×Cls)}{e u:Env}{v:Prop}{st w:List Nat}(h:zq n p tm l st w r e= .mk q u v)(g:Run P l.toArray X Q q u σ)(j:v):Run P l.toArray X Q r e σ:=by
 cases r with
 |nil=>cases h
 |cons x r=>
  obtain⟨i,c⟩:=x;simp only[zq]at h;split at h
  cases h;rename_i o m
  split at h
  cases h;split at h
  cases h;rename_i hw
  split at h
  rename_i t a
  exact qbJ m a hw (qjS f g j _ r _ _ h).2;rename_i a
  exact qvN m a hw (qjS f g j _ r _ _ h).2;rename_i hw
  split at h
  cases h;rename_i t a
  split at h
  cases h;split at h
  rename_i d C z
  obtain⟨A,B⟩:=qjS f g j _ r _ _ h;exact z_d m a hw (qt3 f z A.b) B;cases h
end
section
variable{P:Program}{env:Env}{σ:St}{l:List Oper}
def dgc:Nat→Cls |0=>.d |1=>.w |2=>.r |_=>.x
def ixc:Nat→Nat→Nat→List (Nat×Cls) |_,0,_=>[] |i,n+1,c=>(i,dgc (c%4))::ixc (i+1) n (c/4)
def zak(env:Env):List Nat→Option Env
 |[]=>some []
 |t::ts=>match lk env t with
  |none=>none
  |some d=>match zak env ts with
   |none=>none
   |some e=>some ((t,d)::e)
theorem qh8:∀(ts:List Nat)(e:Env),zak env ts=some e→Sub e env
 |[],e,h=>by
  simp only[zak,Option.some.injEq]at h;subst h;exact Sub.nil _
 |t::ts,e,h=>by
  simp only[zak]at h;split at h
  cases h;rename_i d hd
  split at h
  cases h;rename_i a he
  cases h;exact Sub.cons' hd (qh8 ts a he)
theorem sbr{e:Env}(h:zak env (e.map Prod.fst)=some e):Sub e env:=qh8 _ _ h
theorem pk0{α:Type}{l m:List α}(a:α)(h:l.Perm m):(a::l).Perm (a::m):=h.cons a
theorem pk1{α:Type}{l m:List α}(a b:α)(h:(a::l).Perm m):(a::b::l).Perm (b::m):=(pf1 _ _ _).trans (h.cons b)
theorem pk2{α:Type}{l m:List α}(a b c:α)(h:(a::b::l).Perm m):(a::b::c::l).Perm (c::m):=(pf2 _ _ _ _).trans (h.cons c)
theorem pk3{α:Type}{l m:List α}(a b c d:α)(h:(a::b::c::l).Perm m):(a::b::c::d::l).Perm (d::m):=(pf3 _ _ _ _ _).trans (h.cons d)
theorem pk4{α:Type}{l m:List α}(a b c d e:α)(h:(a::b::c::d::l).Perm m):(a::b::c::d::e::l).Perm (e::m):=(pf4 _ _ _ _ _ _).trans (h.cons e)
theorem pk5{α:Type}{l m:List α}(a b c d e f:α)(h:(a::b::c::d::e::l).Perm m):(a::b::c::d::e::f::l).Perm (f::m):=(pf5 _ _ _ _ _ _ _).trans (h.cons f)
theorem pk6{α:Type}{l m:List α}(a b c d e f g:α)(h:(a::b::c::d::e::f::l).Perm m):(a::b::c::d::e::f::g::l).Perm (g::m):=(pf6 _ _ _ _ _ _ _ _).trans (h.cons g)
theorem pk7{α:Type}{l m:List α}(a b c d e f g z:α)(h:(a::b::c::d::e::f::g::l).Perm m):(a::b::c::d::e::f::g::z::l).Perm (z::m):=(pf7 _ _ _ _ _ _ _ _ _).trans (h.cons z)
theorem pk8{α:Type}{l m:List α}(a b c d e f g z y:α)(h:(a::b::c::d::e::f::g::z::l).Perm m):(a::b::c::d::e::f::g::z::y::l).Perm (y::m):=(JW (l₁:=[a,b,c,d,e,f,g,z])).trans (h.cons y)
theorem pk9{α:Type}{l m:List α}(a b c d e f g z y x:α)(h:(a::b::c::d::e::f::g::z::y::l).Perm m):(a::b::c::d::e::f::g::z::y::x::l).Perm (x::m):=(JW (l₁:=[a,b,c,d,e,f,g,z,y])).trans (h.cons x)
theorem pkz{α:Type}{l m:List α}(h:l.Perm m:=by(repeat' (first|exact .nil|exact List.Perm.refl _|refine pk0 _ ?_|refine pk1 _ _ ?_|refine pk2 _ _ _ ?_|refine pk3 _ _ _ _ ?_|refine pk4 _ _ _ _ _ ?_|refine pk5 _ _ _ _ _ _ ?_|refine pk6 _ _ _ _ _ _ _ ?_|refine pk7 _ _ _ _ _ _ _ _ ?_|refine pk8 _ _ _ _ _ _ _ _ _ ?_|refine pk9 _ _ _ _ _ _ _ _ _ _ ?_));done):l.Perm m:=h
end
structure Kt(β ρ:Type) where
 f:β→Option ρ
 n:Nat
@[irreducible] def jn{β ρ:Type}(body:(β→Option ρ)→Option ρ)(k:β→Option ρ):Option ρ:=body k
def forL{α β ρ:Type}(body:Nat→α→β→(β→Option ρ)→Option ρ)(k:β→Option ρ):Nat→List α→β→Option ρ |_,[],s=>k s |i,x::l,s=>body i x s (forL body k (i+1) l)
def forC{β ρ:Type}(body:Int→β→(β→Option ρ)→Option ρ)(k:β→Option ρ):Nat→Int→β→Option ρ |0,_,s=>k s |n+1,i,s=>body i s (forC body k n (i+1))
def forD{β ρ:Type}(body:Nat→β→(β→Option ρ)→Option ρ)(k:β→Option ρ):Nat→β→Option ρ |0,s=>k s |n+1,s=>body n s (forD body k n)
def forF{β ρ:Type}(body:β→(β→Option ρ)→Option ρ):Nat→β→Option ρ |0,_=>none |n+1,s=>body s (forF body n)
theorem qqI{β ρ:Type}(body:(β→Option ρ)→Option ρ)(k:β→Option ρ):jn body k=body k:=by rw[jn]
def oU(e:Env)(t:Nat):Value:=match lk e t with
 |some (.own u _)=>u
 |some (.vec u _)=>u
 |_=>Go.undef
def oS:St→List Nat→Value
 |[],_=>Go.undef
 |.cell _ d::l,p=>match zai d p with
  |some (.own u _)=>u
  |some (.vec u _)=>u
  |_=>oS l p
 |_::l,p=>oS l p
def oM:St→List Nat→Nat
 |[],_=>0
 |.cell _ d::l,p=>match zai d p with
  |some (.map u)=>u
  |_=>oM l p
 |_::l,p=>oM l p
def oP(e:Env)(t:Nat)(p:List Nat):Nat:=match lk e t with
 |some (.ptr d)=>match zai d p with
  |some (.map u)=>u
  |_=>0
 |_=>0
def oB(e:Env)(t:Nat):Nat:=match lk e t with
 |some (.ref b _ _)=>b
 |some (.map b)=>b
 |some (.arr b _ _ _)=>b
 |_=>0
structure Hn:Type 1 where
 β:Type
 ks:List Nat
 cs:List Nat
 sh:β→Env→St→Env×St
 ln:List Nat:=[]
structure Pn:Type 1 where
 β:Type
 ν:Type
 ks:List Nat
 os:Env→St→List D
 pre:List (Nat×Nat)
 pl:Pl
 sh:β→ν→Env→St→Env×St
structure Tb:Type 1 where
 rf:List Nat:=[]
 ow:List Nat:=[]
 fz:List (Nat×List Nat):=[]
 rg:List (Nat×List (Nat×Nat)):=[]
 ls:List (Nat×Hn):=[]
 bs:List (Nat×Hn):=[]
 js:List (Nat×Hn):=[]
 fr:List Nat:=[]
 pl:List (Nat×Pn):=[]
 nl:List (Nat×List (Nat×Nat×Bool)):=[]
 fb:List (Nat×List Nat):=[]
 vw:List Nat:=[]
 ot:List Nat:=[]
def fndP:List (Nat×Pn)→Nat→Option Pn
 |[],_=>none
 |(i,h)::l,j=>match jX i j with
  |true=>some h
  |false=>fndP l j
def zck:List (Nat×Hn)→Nat→Option Hn
 |[],_=>none
 |(i,h)::l,j=>match jX i j with
  |true=>some h
  |false=>zck l j
def lid:Code→Nat |.region id _ _=>id |.seq x _=>lid x |.block _ c=>lid c |.loop c=>lid c |.cond _ x _=>lid x |_=>0
structure zh(T:Tb)(m:Md)(P:Program)(f:FuncId)(fn:Func)(K:Ctx)(R:D→St→Prop)(k:List Item)(env:Env)(σ:St):Prop where
 h:ze m P f fn K R k env σ
structure za8(fz:List Nat)(T:Tb)(m:Md)(P:Program)(f:FuncId)(fn:Func)(K:Ctx)(R:D→St→Prop)(k:List Item)(env:Env)(σ:St):Prop where
 h:ze m P f fn K R k env σ
abbrev Gu(p:Prop):Prop:=p→p
structure Rn(fz:List Nat)(T:Tb)(P:Program)(Q:Env→St→Prop)(X:Env→D→St→Prop)(l:List Oper)(rest:List (Nat×Cls))(env:Env)(σ:St):Prop where
 h:Run P l.toArray X Q rest env σ
inductive Rem:List D→St→St→Prop
 |nil {σ:St}:Rem [] σ σ
 |own {u:Value} {l:List D} {n:Nat} {e:TypeId} {s:Nat} {ks:List D} {σ τ υ:St} (hp:σ.Perm ([.row u n e s]++τ)) (h:Rem ks τ υ):Rem (.own u l::ks) σ υ
 |vec {u:Value} {n:Nat} {l:List D} {e:TypeId} {s:Nat} {ks:List D} {σ τ υ:St} (hp:σ.Perm ([.vec u l e s]++τ)) (h:Rem ks τ υ):Rem (.vec u n::ks) σ υ
 |ref {b o:Nat} {p:List Nat} {d:D} {ks:List D} {σ τ υ:St} (hp:σ.Perm ([.cell b d]++τ)) (h:Rem ks τ υ):Rem (.ref b o p::ks) σ υ
 |map {r:Nat} {kv:List (D×D)} {ks:List D} {σ τ υ:St} (hp:σ.Perm ([.map r kv]++τ)) (h:Rem ks τ υ):Rem (.map r::ks) σ υ
 |arr {b s lo n s':Nat} {l:List D} {e:TypeId} {ks:List D} {σ τ υ:St} (hp:σ.Perm ([.arr b l e s']++τ)) (h:Rem ks τ υ):Rem (.arr b s lo n::ks) σ υ
def zb0(env:Env):List Nat→Option (List D)
 |[]=>some []
 |t::ts=>match lk env t with
  |none=>none
  |some d=>match zb0 env ts with
   |none=>none
   |some e=>some (d::e)
def unP:D→D |.ptr d=>d |d=>d
def LenB(env:Env)(n:Nat)(_:List Nat):Prop:=∀(p:Addr→Prop)(w:World)(a:Act),zD p w env a→n≤9223372036854775807
def zcu(env:Env)(n:Int)(_:List Nat):Prop:=∀(p:Addr→Prop)(w:World)(a:Act),zD p w env a→-9223372036854775808≤n∧n<9223372036854775808
theorem qsq{env:Env}{n:Int}{t:Nat}{ts:List Nat}(h:lk env t=some (.int .i64 n)):zcu env n (t::ts):=fun p w a hr=>by
 have:=hr t _ h;simp only[Rep]at this;exact qfu this.2
theorem qzc{env:Env}{n:Nat}{t:Nat}{ts:List Nat}(h:lk env t=some (.int .i64 (n:Int))):LenB env n (t::ts):=fun p w a hr=>by
 have:=qsq (ts:=ts) h p w a hr;omega
theorem qAD{α:Type}{env:Env}{L:List α}{f:α→D}{t:Nat}{ts:List Nat}{d d0 j:D}(h:lk env t=some d)(hd:unP d=d0)(hs:zai d0 ts=some j)(m:asL j=some (L.map f)):LenB env L.length (t::ts):=fun p w a hr=>by
 have g:=hr t _ h;have e:∃v,Rep p w d0 v:=by
  unfold unP at hd;split at hd
  subst hd;simp only[Rep]at g;obtain⟨b,o,u,_,_,e,_⟩:=g;exact⟨u,e⟩;subst hd;exact⟨_,g⟩
 obtain⟨v,e⟩:=e;obtain⟨r,n,_⟩:=qjR e hs;obtain⟨A,c,xs,_,q,x,_⟩:=(asl m).rep n;rw[jh]at q;omega
theorem qxO{env:Env}{n:Int}{ln:List Nat}(h: -9223372036854775808≤n∧n<9223372036854775808):zcu env n ln:=fun _ _ _ _=>h
theorem qAt{env:Env}{n:Int}{ln:List Nat}:zcu env (wr n) ln:=fun _ _ _ _=>qxK n
section
variable{T:Tb}{m:Md}{P:Program}{f:FuncId}{fn:Func}{K:Ctx}{R:D→St→Prop}{k:List Item}{env:Env}{σ:St}
theorem qnY{x y:Code}(h:zh T m P f fn K R (.code x:: .code y::k) env σ):zh T m P f fn K R (.code (.seq x y)::k) env σ:=⟨qx h.h⟩
theorem qwI(h:zh T m P f fn K R k env σ):zh T m P f fn K R (.code .skip::k) env σ:=⟨qaC h.h⟩
theorem qxh{id:Nat}(h:zh T m P f fn K R k env σ):zh T m P f fn K R (.inBlock id::k) env σ:=⟨qau h.h⟩
theorem qBb{c:Code}(h:zh T m P f fn K R (.code c:: .inScope c::k) env σ):zh T m P f fn K R (.code (.scope c)::k) env σ:=⟨qle (fun _ _ _ _=>step_lone_go (by simp[stepG,stepG.exec,Frame.atR])) h.h⟩
theorem qAK{n:Nat}(h:zh T m P f fn K R k env σ):zh T m P f fn K R (.code (.label n)::k) env σ:=⟨qle (fun _ _ _ _=>stepR_label) h.h⟩
theorem qAN{id:Nat}{c:Code}(h:zh T m P f fn K R (.code c:: .inBlock id::k) env σ):zh T m P f fn K R (.code (.block id c)::k) env σ:=⟨qcj h.h⟩
theorem qCF{id:Nat}{a:List Item}(he:exitTo id k=some a)(h:zh T m P f fn K R a env σ):zh T m P f fn K R (.code (.exit id)::k) env σ:=⟨qi9 he h.h⟩
theorem qAE{c:Operand}{x y:Code}(a:ev env c=some (.bool true))(h:zh T m P f fn K R (.code x::k) env σ):zh T m P f fn K R (.code (.cond c x y)::k) env σ:=⟨qS a h.h⟩
theorem qz7{c:Operand}{x y:Code}(a:ev env c=some (.bool false))(h:zh T m P f fn K R (.code y::k) env σ):zh T m P f fn K R (.code (.cond c x y)::k) env σ:=⟨qL a h.h⟩
theorem t_cT{c:Operand}{x y:Code}{b:Bool}(a:ev env c=some (.bool b))(hb:b=true)(h:zh T m P f fn K R (.code x::k) env σ):zh T m P f fn K R (.code (.cond c x y)::k) env σ:=⟨qS (by rw[a,hb]) h.h⟩
theorem t_cF{c:Operand}{x y:Code}{b:Bool}(a:ev env c=some (.bool b))(hb:b=false)(h:zh T m P f fn K R (.code y::k) env σ):zh T m P f fn K R (.code (.cond c x y)::k) env σ:=⟨qL (by rw[a,hb]) h.h⟩
theorem t_br{ρ:Type}{b:Bool}{x y:Option ρ}{res:ρ}{s:Nat}{a g:Code}(hr:(bif b then x else y)=some res)(hs:lk env s=some (.bool b))(j:b=true→x=some res→zh T m P f fn K R (.code a::k) ((s,.bool true)::env) σ)(n:b=false→y=some res→zh T m P f fn K R (.code g::k) ((s,.bool false)::env) σ):zh T m P f fn K R (.code (.cond (.tmp s) a g)::k) env σ:=
 ⟨g_sB s hs hr (fun h e=>qS (by simp only[ev,qa5,if_pos]) (j h e).h) fun h e=>qL (by simp only[ev,qa5,if_pos]) (n h e).h⟩
def ixw{α:Type}:Nat→List α→List (Nat×Cls) |_,[]=>[] |i,_::l=>(i,.w)::ixw (i+1) l
theorem qp4{α:Type}:∀(l:List α)(i:Nat),(ixw i l).map (·.1)=List.range' i l.length
 |[],i=>rfl
 |x::l,i=>by rw[ixw,jm,qp4 l (i+1),jg,List.range'_succ]
theorem zbZ{id:Nat}{l:List Oper}{fz:List Nat}(hz:(yV T.fz id).getD []=fz)(h:Rn fz T P (ze Md.top P f fn K R k) (fun _=>K.X) l (ixw 0 l) env σ)(hok:yw l.toArray fn.ntmps=true:=by kernel_rfl):zh T Md.top P f fn K R (.code (.region id l.toArray false)::k) env σ:=⟨qAb hok (ixw 0 l) (by rw[qp4,List.range_eq_range']) h.h⟩
def ixl(n:Nat):Option (List (Nat×Nat))→List (Nat×Cls) |none=>ixc 0 n 0 |some l=>l.map fun x=>(x.1,dgc x.2)
theorem qDE{id:Nat}{l:List Oper}{fz:List Nat}{ord:List (Nat×Cls)}(hc:ixl l.length (yV T.rg id)=ord)(hz:(yV T.fz id).getD []=fz)(h:Rn fz T P (ze m P f fn K R k) NX l ord env σ)(hm:P.follows .mixedOrders=true:=by kernel_rfl)(hok:yw l.toArray fn.ntmps=true:=by kernel_rfl)(hA:zah l.toArray ord=true:=by kernel_rfl)(hx:ord.all (fun x=>decide (x.2≠.x))=true:=by rfl):zh T m P f fn K R (.code (.region id l.toArray true)::k) env σ:=⟨qBc hm hok ord hA h.h hx⟩
def nlO:List (Nat×Nat×Bool)→St |[]=>[] |(e,s,false)::r=>.row (.slice none 0 0) 0 e s::nlO r |(e,s,true)::r=>.vec (.slice none 0 0) [] e s::nlO r
theorem g_nl:∀(rows:List (Nat×Nat×Bool)),(rows.all fun x=>decide (0<x.2.1))=true→ze m P f fn K R k env (nlO rows++σ)→ze m P f fn K R k env σ
 |[],_,h=>h
 |(e,s,false)::r,a,h=>by
  simp only[Jk,jk]at a;exact g_nl r a.2 (qt1 e s h)
 |(e,s,true)::r,a,h=>by
  simp only[Jk,jk]at a;exact g_nl r a.2 (qyD e s (by simpa using a.1) h)
theorem qDn{id:Nat}{l:List Oper}{fz:List Nat}{rows:List (Nat×Nat×Bool)}{τ:St}(hn:yV T.nl id=some rows)(hz:(yV T.fz id).getD []=fz)(ha:(rows.all fun x=>decide (0<x.2.1))=true)(he:nlO rows++σ=τ)(h:Rn fz T P (ze Md.top P f fn K R k) (fun _=>K.X) l (ixw 0 l) env τ)(hok:yw l.toArray fn.ntmps=true:=by kernel_rfl):zh T Md.top P f fn K R (.code (.region id l.toArray false)::k) env σ:=⟨g_nl rows ha (he▸qAb hok (ixw 0 l) (by rw[qp4,List.range_eq_range']) h.h)⟩
theorem qCv{id:Nat}{l:List Oper}{fz:List Nat}{ord:List (Nat×Cls)}{rows:List (Nat×Nat×Bool)}{τ:St}(hn:yV T.nl id=some rows)(hc:ixl l.length (yV T.rg id)=ord)(hz:(yV T.fz id).getD []=fz)(ha:(rows.all fun x=>decide (0<x.2.1))=true)(he:nlO rows++σ=τ)(h:Rn fz T P (ze m P f fn K R k) NX l ord env τ)(hm:P.follows .mixedOrders=true:=by kernel_rfl)(hok:yw l.toArray fn.ntmps=true:=by kernel_rfl)(hA:zah l.toArray ord=true:=by kernel_rfl)(hx:ord.all (fun x=>decide (x.2≠.x))=true:=by rfl):zh T m P f fn K R (.code (.region id l.toArray true)::k) env σ:=⟨g_nl rows ha (he▸qBc hm hok ord hA h.h hx)⟩
theorem qz9{id:Nat}{a:List Item}{fz:List Nat}(b:yV T.fb id=some fz)(he:exitTo id k=some a)(h:za8 fz T m P f fn K R a env σ):zh T m P f fn K R (.code (.exit id)::k) env σ:=⟨qi9 he h.h⟩
theorem qpA(h:zh T m P f fn K R k env σ):za8 [] T m P f fn K R k env σ:=⟨h.h⟩
theorem qCk{s b:Nat}{a:List Nat}{d:D}{τ:St}(hs:lk env s=some (.ref b 0 []))(e:σ.Perm ([.cell b d]++τ))(h:za8 a T m P f fn K R k ((s,.ptr d)::env) τ):za8 (s::a) T m P f fn K R k env σ:=⟨qfL s b hs e h.h⟩
structure Ix where
 n:Nat
structure Iy where
 z:Int
structure Iw where
 n:Nat
theorem qCy(V E:Env)(t:Nat):lk (V++E) t=match lk V t with|some d=>some d|none=>lk E t:=by
 induction V with
 |nil=>rfl
 |cons x V a=>
  obtain⟨b,e⟩:=x;rw[jy,qa5,qa5];split
  rfl;exact a
theorem qnt{V E:Env}(a:Sub V env)(b:Sub E env):Sub (V++E) env:=fun t d h=>by
 rw[qCy]at h;split at h
 rename_i e he
 cases h;exact a t _ he;exact b t d h
theorem hkT{β ρ:Type}{kk:Kt β ρ}{s:β}{r:ρ}{sh:β→Env→St→Env×St}{E V:Env}{S U:St}(hr:kk.f s=some r)(a:∀s u ς,kk.f s=some r→zh T m P f fn K R k ((sh s u ς).1++E) ((sh s u ς).2++U))(h:sh s env σ=(V,S))(b:Sub V env)(e:zak env (E.map Prod.fst)=some E)(g:σ.Perm (S++U)):zh T m P f fn K R k env σ:=
 ⟨qcS _ (qnt b (sbr e)) (qjd (S++U) [] (by simpa using g) (by
  have:=a s env σ hr;rw[h]at this;exact this.h))⟩
section
variable{β ρ:Type}{body:(β→Option ρ)→Option ρ}{rest:β→Option ρ}{res:ρ}{ks cs ln:List Nat}{sh:β→Env→St→Env×St}{E:Env}{Os:List D}{U:St}
theorem qBh{x y:Code}(hr:jn body rest=some res)(e:zck T.js (lid y)=some ⟨β,ks,cs,sh,ln⟩)(g:zak env ks=some E)(hK:zb0 env cs=some Os)(j:Rem Os σ U)(a:∀s u ς,rest s=some res→zh T m P f fn K R (.code y::k) ((sh s (E++u) ς).1++E) ((sh s (E++u) ς).2++U))(b:∀kk:Kt β ρ,(∀s u ς,kk.f s=some res→zh T m P f fn K R (.code y::k) ((sh s (E++u) ς).1++E) ((sh s (E++u) ς).2++U))→body kk.f=some res→zh T m P f fn K R (.code x:: .code y::k) env σ):zh T m P f fn K R (.code (.seq x y)::k) env σ:=⟨qx (b ⟨rest,0⟩ a (by rw[qqI]at hr;exact hr)).h⟩
theorem qAj{x z y:Code}(hr:jn body rest=some res)(e:zck T.js (lid y)=some ⟨β,ks,cs,sh,ln⟩)(g:zak env ks=some E)(hK:zb0 env cs=some Os)(j:Rem Os σ U)(a:∀s u ς,rest s=some res→zh T m P f fn K R (.code y::k) ((sh s (E++u) ς).1++E) ((sh s (E++u) ς).2++U))(b:∀kk:Kt β ρ,(∀s u ς,kk.f s=some res→zh T m P f fn K R (.code y::k) ((sh s (E++u) ς).1++E) ((sh s (E++u) ς).2++U))→body kk.f=some res→zh T m P f fn K R (.code x:: .code (.seq z y)::k) env σ):zh T m P f fn K R (.code (.seq x (.seq z y))::k) env σ:=⟨qx (b ⟨rest,0⟩ a (by rw[qqI]at hr;exact hr)).h⟩
theorem qBD{id:Nat}{c:Code}(hr:jn body rest=some res)(e:zck T.bs id=some ⟨β,ks,cs,sh,ln⟩)(g:zak env ks=some E)(hK:zb0 env cs=some Os)(h:Rem Os σ U)(a:∀s u ς,rest s=some res→zh T m P f fn K R k ((sh s (E++u) ς).1++E) ((sh s (E++u) ς).2++U))(b:∀kk:Kt β ρ,(∀s u ς,kk.f s=some res→zh T m P f fn K R k ((sh s (E++u) ς).1++E) ((sh s (E++u) ς).2++U))→body kk.f=some res→zh T m P f fn K R (.code (.block id c)::k) env σ):zh T m P f fn K R (.code (.block id c)::k) env σ:=b ⟨rest,0⟩ a (by rw[qqI]at hr;exact hr)
end
section
variable{α β ρ:Type}{after:β→Option ρ}{s0:β}{res:ρ}{ks cs ln:List Nat}{V0 E:Env}{S0 U:St}{id:Nat}{c:Code}
theorem qDf{body:Nat→α→β→(β→Option ρ)→Option ρ}{L:List α}{sh:Nat×β→Env→St→Env×St}(hr:forL body after 0 L s0=some res)(hl:zck T.ls id=some ⟨Nat×β,ks,cs,sh,ln⟩)(j:zak env ks=some E)(g:sh (0,s0) (E++env) σ=(V0,S0))(r:Sub V0 env)(v:σ.Perm (S0++U))(x:LenB env L.length ln)
 (z:∀s u ς,decide ((L.length:Int)<(L.length:Int))=false→after s=some res→zh T m P f fn K R (.code c:: .inLoop c:: .inBlock id::k) ((sh (L.length,s) (E++u) ς).1++E) ((sh (L.length,s) (E++u) ς).2++U))
 (hb:∀(i:Ix) q s u ς(next:Kt β ρ),getI L (i.n:Int)=some q→decide ((i.n:Int)<(L.length:Int))=true→i.n<L.length→L.length≤9223372036854775807→(∀s u ς,next.f s=some res→zh T m P f fn K R (.inLoop c:: .inBlock id::k) ((sh (i.n+1,s) (E++u) ς).1++E) ((sh (i.n+1,s) (E++u) ς).2++U))→body i.n q s next.f=some res→zh T m P f fn K R (.code c:: .inLoop c:: .inBlock id::k) ((sh (i.n,s) (E++u) ς).1++E) ((sh (i.n,s) (E++u) ς).2++U)):zh T m P f fn K R (.code (.block id (.loop c))::k) env σ:=by
 refine⟨?_⟩;refine qpt (C:=L.length≤9223372036854775807) (fun p a w _ hr=>x p w a hr) fun hlen=>?_;refine qcj (qcS _ (qnt r (qh8 _ _ j)) (qjd (S0++U) [] (by simpa using v) ?_));refine qhh (fun n env σ=>∃i s u ς,n=L.length-i∧i≤L.length∧env=(sh (i,s) (E++u) ς).1++E∧σ=(sh (i,s) (E++u) ς).2++U∧forL body after i (L.drop i) s=some res) _ ⟨0,s0,env,σ,rfl,ju _,by rw[g],by rw[g],hr⟩ ?_;rintro n _ _ ⟨i,s,u,ς,rfl,hi,rfl,rfl,hr⟩ IH;rcases zat L i hi with⟨b,hd,rfl⟩|⟨q,b,hd,hq,hlt⟩
 · rw[hd]at hr
   exact(z s u ς b hr).h
 · rw[hd]at hr
   exact(hb ⟨i⟩ q s u ς ⟨forL body after (i+1) (L.drop (i+1)),0⟩ hq b hlt hlen (fun A B ς' e=>⟨IH _ _ _ oa ⟨i+1,A,B,ς',rfl,hlt,rfl,rfl,e⟩⟩) hr).h
theorem qDr{body:Int→β→(β→Option ρ)→Option ρ}{N a:Int}{sh:Int×β→Env→St→Env×St}(hr:forC body after (N-a).toNat a s0=some res)(hl:zck T.ls id=some ⟨Int×β,ks,cs,sh,ln⟩)(j:zak env ks=some E)(g:sh (a,s0) (E++env) σ=(V0,S0))(q:Sub V0 env)(r:σ.Perm (S0++U))(v:zcu env N ln)(A:zcu env a cs)
 (B:∀i s u ς,decide (i<N)=false→after s=some res→zh T m P f fn K R (.code c:: .inLoop c:: .inBlock id::k) ((sh (i,s) (E++u) ς).1++E) ((sh (i,s) (E++u) ς).2++U))
 (hb:∀(i:Iy) s u ς(next:Kt β ρ),decide (i.z<N)=true→i.z<N→N<9223372036854775808→-9223372036854775808≤i.z→(∀s u ς,next.f s=some res→zh T m P f fn K R (.inLoop c:: .inBlock id::k) ((sh (i.z+1,s) (E++u) ς).1++E) ((sh (i.z+1,s) (E++u) ς).2++U))→body i.z s next.f=some res→zh T m P f fn K R (.code c:: .inLoop c:: .inBlock id::k) ((sh (i.z,s) (E++u) ς).1++E) ((sh (i.z,s) (E++u) ς).2++U)):zh T m P f fn K R (.code (.block id (.loop c))::k) env σ:=by
 refine⟨?_⟩;refine qpt (C:=N<9223372036854775808∧-9223372036854775808≤a) (fun p x w _ hr=>⟨(v p w x hr).2,(A p w x hr).1⟩) fun hlen=>?_;refine qcj (qcS _ (qnt q (qh8 _ _ j)) (qjd (S0++U) [] (by simpa using r) ?_));refine qhh (fun n env σ=>∃i s u ς,n=(N-i).toNat∧a≤i∧env=(sh (i,s) (E++u) ς).1++E∧σ=(sh (i,s) (E++u) ς).2++U∧forC body after (N-i).toNat i s=some res) _ ⟨a,s0,env,σ,rfl,vf _,by rw[g],by rw[g],hr⟩ ?_;rintro n _ _ ⟨i,s,u,ς,rfl,hi,rfl,rfl,hr⟩ IH;rcases zcR i N _ rfl with⟨hd,b⟩|⟨F,hd,b,hm,hlt⟩
 · rw[hd]at hr
   exact(B i s u ς b hr).h
 · rw[hd]at hr
   exact(hb ⟨i⟩ s u ς ⟨forC body after F (i+1),0⟩ b hlt hlen.1 (show-9223372036854775808≤i by omega) (fun G H ς' e=>⟨IH _ _ _ oa ⟨i+1,G,H,ς',rfl,by omega,rfl,rfl,by rw[←hm];exact e⟩⟩) hr).h
theorem qC4{body:Nat→β→(β→Option ρ)→Option ρ}{a:Int}{sh:Int×β→Env→St→Env×St}(hr:((zaN a).bind fun n=>forD body after n s0)=some res)(hl:zck T.ls id=some ⟨Int×β,ks,cs,sh,ln⟩)(v:zak env ks=some E)(q:sh (a,s0) (E++env) σ=(V0,S0))(z:Sub V0 env)(A:σ.Perm (S0++U))(B:zcu env a ln)
 (F:∀s u ς,decide ((-1:Int)≥0)=false→after s=some res→zh T m P f fn K R (.code c:: .inLoop c:: .inBlock id::k) ((sh (-1,s) (E++u) ς).1++E) ((sh (-1,s) (E++u) ς).2++U))
 (hb:∀(i:Iw) s u ς(next:Kt β ρ),decide ((i.n:Int)≥0)=true→i.n<9223372036854775808→(∀s u ς,next.f s=some res→zh T m P f fn K R (.inLoop c:: .inBlock id::k) ((sh ((i.n:Int)-1,s) (E++u) ς).1++E) ((sh ((i.n:Int)-1,s) (E++u) ς).2++U))→body i.n s next.f=some res→zh T m P f fn K R (.code c:: .inLoop c:: .inBlock id::k) ((sh ((i.n:Int),s) (E++u) ς).1++E) ((sh ((i.n:Int),s) (E++u) ς).2++U)):zh T m P f fn K R (.code (.block id (.loop c))::k) env σ:=by
 refine⟨?_⟩;obtain⟨r,b,g⟩:=zV hr;clear hr;obtain rfl:=qps b;refine qpt (C:=(r:Int)-1<9223372036854775808) (fun p x w _ hr=>(B p w x hr).2) fun hlen=>?_;refine qcj (qcS _ (qnt z (qh8 _ _ v)) (qjd (S0++U) [] (by simpa using A) ?_));refine qhh (fun n env σ=>∃s u ς,n≤r∧env=(sh ((n:Int)-1,s) (E++u) ς).1++E∧σ=(sh ((n:Int)-1,s) (E++u) ς).2++U∧forD body after n s=some res) _ ⟨s0,env,σ,jf _,by rw[q],by rw[q],g⟩ ?_;rintro n _ _ ⟨s,u,ς,hi,rfl,rfl,hr⟩ IH;cases n with
 |zero=>exact(F s u ς rfl hr).h
 |succ n=>
  have e:((n+1:Nat):Int)-1=(n:Int):=by omega
  rw[e];exact(hb ⟨n⟩ s u ς ⟨forD body after n,0⟩ (decide_eq_true (show(n:Int)≥0 by omega)) (show n<9223372036854775808 by omega) (fun G H ς' j=>⟨IH n _ _ oa ⟨G,H,ς',by omega,rfl,rfl,j⟩⟩) hr).h
theorem qDh{body:β→(β→Option ρ)→Option ρ}{n:Nat}{sh:β→Env→St→Env×St}(hr:forF body n s0=some res)(hl:zck T.ls id=some ⟨β,ks,cs,sh,ln⟩)(e:zak env ks=some E)(b:sh s0 (E++env) σ=(V0,S0))(g:Sub V0 env)(j:σ.Perm (S0++U))
 (hb:∀s u ς(next:Kt β ρ),(∀s u ς,next.f s=some res→zh T m P f fn K R (.inLoop c:: .inBlock id::k) ((sh s (E++u) ς).1++E) ((sh s (E++u) ς).2++U))→body s next.f=some res→zh T m P f fn K R (.code c:: .inLoop c:: .inBlock id::k) ((sh s (E++u) ς).1++E) ((sh s (E++u) ς).2++U)):zh T m P f fn K R (.code (.block id (.loop c))::k) env σ:=by
 refine⟨?_⟩;refine qcj (qcS _ (qnt g (qh8 _ _ e)) (qjd (S0++U) [] (by simpa using j) ?_));refine qhh (fun n env σ=>∃s u ς,env=(sh s (E++u) ς).1++E∧σ=(sh s (E++u) ς).2++U∧forF body n s=some res) _ ⟨s0,env,σ,by rw[b],by rw[b],hr⟩ ?_;rintro n _ _ ⟨s,u,ς,rfl,rfl,hr⟩ IH;cases n with
 |zero=>cases hr
 |succ n=>exact(hb s u ς ⟨forF body n,0⟩ (fun p q ς' a=>⟨IH n _ _ oa ⟨p,q,ς',rfl,rfl,a⟩⟩) hr).h
end
end
class Cb(P:Program){α:Type}(f:FuncId)(c:Option α)(ds:outParam (List D))(en:outParam (α→D)):Prop where
 h:∀r,c=some r→zf P f ds (en r)
theorem asz0{s:Nat}:zx s []:=fun _ h=>by cases h
theorem asz1{s:Nat}{d:D}{ds:List D}(h:sz d=s)(k:zx s ds):zx s (d::ds):=fun e he=>by
 rcases jx.1 he with rfl|he
 exact h;exact k e he
theorem alA{s:Nat}{ds:List D}(h:zx s ds:=by(repeat(first|exact asz0|refine asz1 szA ?_));done):zx s ds:=h
theorem tmk(k i:Int)(s:ByteArray)(ar:List T):D.agg [.int .i64 k,.int .i64 i,.str s,.lst (ar.map zg)]= .agg (fsT (.mk k i s ar)):=(congrArg D.agg (qho (.mk k i s ar))).symm
def zaP{α:Type}(l:List α)(n:Int)(x:α):Option (List α):=if 0≤n∧n.toNat<l.length then some (l.set n.toNat x)else none
theorem qnN{α:Type}{l r:List α}{n:Int}{x:α}(h:zaP l n x=some r):0≤n∧n.toNat<l.length∧r=l.set n.toNat x:=by
 unfold zaP at h;split at h
 rename_i a
 exact⟨a.1,a.2,(Option.some.inj h).symm⟩;cases h
theorem qiV{α:Type}{l r:List α}{n:Int}{x:α}(h:zaP l n x=some r):r.length=l.length:=by
 rw[(qnN h).2.2,vT]
theorem lnE{a b:Nat}(h:a=b:=by first|rfl|exact qiV (by assumption)|exact(qiV (by assumption)).symm|exact(qiV (by assumption)).trans (qiV (by assumption))|exact((qiV (by assumption)).trans (qiV (by assumption))).symm):a=b:=h
theorem arrE{b s lo n n':Nat}(h:n=n'):D.arr b s lo n= .arr b s lo n':=by rw[h]
theorem wkB{d d':D}(h:Wk d d':=by first|exact Wk.refl _|exact Wk.own _ _|exact Wk.full _|exact Wk.ofEq rfl|exact Wk.ofEq (tmk _ _ _ _)|exact Wk.ofEq (arrE lnE)):Wk d d':=h
theorem wkC{d d':D}(h:Wk d d':=by exact wkB):Wk d d':=h
theorem wsC{ds es:List D}(h:Wks ds es:=by(repeat(first|exact Wks.nil|refine Wks.cons wkC ?_));done):Wks ds es:=h
theorem wkA{d d':D}(h:Wk d d':=by first|exact Wk.refl _|exact Wk.own _ _|exact Wk.full _|exact Wk.ofEq rfl|exact Wk.ofEq (tmk _ _ _ _)|exact Wk.ofEq (arrE lnE)|exact Wk.agg wsC):Wk d d':=h
theorem opA{ρ:Operand→Option D}{xs:List Operand}{ds:List D}(h:yZ ρ xs ds:=by(repeat(first|exact .nil|refine .cons rfl wkA ?_|refine .consN ?_));done):yZ ρ xs ds:=h
theorem sbA{V env:Env}(h:Sub V env:=by(repeat(first|exact Sub.nil _|refine Sub.cons rfl wkA ?_));done):Sub V env:=h
section
variable{fz:List Nat}{τb:Tb}{Q:Env→St→Prop}
variable{P:Program}{X:Env→D→St→Prop}{l:List Oper}{i:Nat}{c:Cls}{o:Oper}{t:Nat}{ty:TypeId}{d:D}{env:Env}{σ:St}{rest:List (Nat×Cls)}
structure AtO(fz:List Nat)(T:Tb)(P:Program)(Q:Env→St→Prop)(X:Env→D→St→Prop)(l:List Oper)(i:Nat)(c:Cls)(rest:List (Nat×Cls))(env:Env)(σ:St)(t:Option Tmp)(ty:TypeId)(op:Op):Prop where
 h:∀o:Oper,l[i]? =some o→o.dst=t→z7 l env o=some true→o.op=op→o.type=ty→Run P l.toArray X Q ((i,c)::rest) env σ
theorem zcr{ty:TypeId}{op:Op}{t:Option Tmp}(h:(l[i]?,o.dst,z7 l env o,o.op,o.type)=(some o,t,some true,op,ty))(a:AtO fz τb P Q X l i c rest env σ t ty op):Rn fz τb P Q X l ((i,c)::rest) env σ:=by
 simp only[Prod.mk.injEq]at h;obtain⟨b,e,g,j,n⟩:=h;exact⟨a.h o b e g j n⟩
theorem qC2{α:Type}{f:α→D}{x:Operand}{a e:TypeId}{s by_:Nat}{b:D}{m:List α}(h:(ev env x,asL b)=(some b,some (m.map f)))[g:ElI P a e s by_](j:Rn fz τb P Q X l rest ((t,.int .i64 (m.length:Int))::env) σ):AtO fz τb P Q X l i c rest env σ (some t) ty (.call {callee:=.builtin .len,args:=#[x],argTypes:=#[a]}):=by
 refine⟨?_⟩;intro o n p q r u;simp only[Prod.mk.injEq]at h;obtain⟨v,w⟩:=h;exact z_d n p q (qfU m r g.h v (asl w)) j.h
theorem qBp{α:Type}{f:α→D}{x ix:Operand}{a e:TypeId}{s by_:Nat}{b:D}{m:List α}{k:IntKind}{n:Int}{q:α}(hq:getI m n=some q)(h:(ev env x,asL b,ev env ix)=(some b,some (m.map f),some (.int k n)))[g:ElI P a e s by_][hF:EF P e α f s](j:Rn fz τb P Q X l rest ((t,.ptr (f q))::env) σ):AtO fz τb P Q X l i c rest env σ (some t) ty (.indexAddr a x ix):=by
 refine⟨?_⟩;intro o r u v w z;simp only[Prod.mk.injEq]at h;obtain⟨A,B,C⟩:=h;exact z_d r u v (qgj m w g.h A (asl B) C hq hF.h (hF.p q)) j.h
theorem qCs{α ρ:Type}{f:α→D}{x ix:Operand}{a e:TypeId}{s by_:Nat}{b:D}{m:List α}{k:IntKind}{n:Int}{g:α→Option ρ}{v:ρ}(hr:(getI m n).bind g=some v)(h:(ev env x,asL b,ev env ix)=(some b,some (m.map f),some (.int k n)))[p:ElI P a e s by_][hF:EF P e α f s](j:∀q,getI m n=some q→g q=some v→Rn fz τb P Q X l rest ((t,.ptr (f q))::env) σ):AtO fz τb P Q X l i c rest env σ (some t) ty (.indexAddr a x ix):=by
 obtain⟨q,hq,hr⟩:=zV hr;exact qBp hq h (j q hq hr)
theorem qC9{op:BinOp}{a t2:TypeId}{x y:Operand}{k:IntKind}{m n r:Int}(h:(ev env x,ev env y,iar op m n)=(some (.int k m),some (.int k n),some r))(b:Rn fz τb P Q X l rest ((t,.int k (k.wrap r))::env) σ):AtO fz τb P Q X l i c rest env σ (some t) ty (.binOp op a x y t2):=by
 refine⟨?_⟩;intro o e g j p q;simp only[Prod.mk.injEq]at h;obtain⟨u,v,w⟩:=h;exact z_d e g j (qqO p u v w) b.h
theorem qDx{a t2:TypeId}{x y:Operand}{j:Ix}(h:(ev env x,ev env y)=(some (.int .i64 (j.n:Int)),some (.int .i64 1)))(z:j.n<9223372036854775807)(b:Rn fz τb P Q X l rest ((t,.int .i64 ((j.n+1:Nat):Int))::env) σ):AtO fz τb P Q X l i c rest env σ (some t) ty (.binOp .add a x y t2):=by
 refine⟨?_⟩;intro o e g p q u;simp only[Prod.mk.injEq]at h;obtain⟨v,w⟩:=h;exact z_d e g p (y4 (r:=((j.n+1:Nat):Int)) q v w (by simp[iar]) oa) b.h
theorem qBU{a t2:TypeId}{x y:Operand}{j:Iy}(h:(ev env x,ev env y)=(some (.int .i64 j.z),some (.int .i64 1)))(b: -9223372036854775808≤j.z+1∧j.z+1<9223372036854775808)(e:Rn fz τb P Q X l rest ((t,.int .i64 (j.z+1))::env) σ):AtO fz τb P Q X l i c rest env σ (some t) ty (.binOp .add a x y t2):=by
 refine⟨?_⟩;intro o g n p q r;simp only[Prod.mk.injEq]at h;obtain⟨u,v⟩:=h;exact z_d g n p (y4 q u v rfl b) e.h
theorem qCE{a t2:TypeId}{x y:Operand}{j:Iw}(h:(ev env x,ev env y)=(some (.int .i64 (j.n:Int)),some (.int .i64 1)))(w:j.n<9223372036854775808)(b:Rn fz τb P Q X l rest ((t,.int .i64 ((j.n:Int)-1))::env) σ):AtO fz τb P Q X l i c rest env σ (some t) ty (.binOp .sub a x y t2):=by
 refine⟨?_⟩;intro o e g p q r;simp only[Prod.mk.injEq]at h;obtain⟨u,v⟩:=h;exact z_d e g p (y4 q u v rfl oa) b.h
theorem qBC{x:Operand}{a:TypeId}{s:ByteArray}(h:ev env x=some (.str s))(b:P.underlying a=some .string)(e:Rn fz τb P Q X l rest ((t,.int .i64 (s.size:Int))::env) σ):AtO fz τb P Q X l i c rest env σ (some t) ty (.call {callee:=.builtin .len,args:=#[x],argTypes:=#[a]}):=by
 refine⟨?_⟩;intro o g j n p q;have r:=h;exact z_d g j n (qCM p b r) e.h
theorem z_cc{α β:Type}{q:Option α}{g:α→Option β}{v:β}{f:FuncId}{args:Array Operand}{a:Array TypeId}{ds:List D}{b:α→D}(hr:q.bind g=some v)[j:CaI P f][n:Cb P f q ds b](p:yZ (ev env) args.toList ds)(u:∀r,q=some r→g r=some v→Rn fz τb P Q X l rest ((t,b r)::env) σ):AtO fz τb P Q X l i c rest env σ (some t) ty (.call {callee:=.value (.func f),args:=args,argTypes:=a}):=by
 obtain⟨r,e,w⟩:=zV hr;refine⟨?_⟩;intro o x z A B C;exact z_d x z A (qcw B j.h p (n.h r e)) (u r e w).h
theorem z_ft{x:Operand}{s:TypeId}{f:Nat}{q:T}{d:D}{off:Nat}(h:ev env x=some (.ptr (.agg (fsT q))))(hd:(fsT q)[f]? =some d∧szs ((fsT q).take f)=off∧d.plain=true){g:List (Nat×Bool×Nat)}{e:List (Nat×List Nat)}{tm:Nat}[j:Tabs P g e tm]{a:List Nat}(n:yV e s=some a)(b:a[f]? =some off)(p:Rn fz τb P Q X l rest ((t,.ptr d)::env) σ):AtO fz τb P Q X l i c rest env σ (some t) ty (.fieldAddr s x f):=by
 refine⟨?_⟩;intro o r u v w z;have A:=h;exact z_d r u v (qan w (j.fld n b) A hd.1 hd.2.1 hd.2.2) p.h
theorem ft0(q:T):(fsT q)[0]? =some (.int .i64 q.k)∧szs ((fsT q).take 0)=0∧(D.int .i64 q.k).plain=true:=⟨qjX q,qjT q,rfl⟩
theorem ft1(q:T):(fsT q)[1]? =some (.int .i64 q.i)∧szs ((fsT q).take 1)=1∧(D.int .i64 q.i).plain=true:=⟨qpT q,qqK q,rfl⟩
theorem ft2(q:T):(fsT q)[2]? =some (.str q.s)∧szs ((fsT q).take 2)=2∧(D.str q.s).plain=true:=⟨qqw q,qqv q,rfl⟩
theorem ft3(q:T):(fsT q)[3]? =some (.lst (q.ar.map zg))∧szs ((fsT q).take 3)=3∧(D.lst (q.ar.map zg)).plain=true:=⟨qqH q,qpV q,rfl⟩
theorem z_fr{s:TypeId}{x:Operand}{f off b e:Nat}{path:List Nat}(h:ev env x=some (.ref b e path)){n:List (Nat×Bool×Nat)}{j:List (Nat×List Nat)}{tm:Nat}[p:Tabs P n j tm]{a:List Nat}(q:yV j s=some a)(g:a[f]? =some off)(r:Rn fz τb P Q X l rest ((t,.ref b (e+off) (path++[f]))::env) σ):AtO fz τb P Q X l i c rest env σ (some t) ty (.fieldAddr s x f):=by
 refine⟨?_⟩;intro o u v w z A;have B:=h;exact z_d u v w (qjO z (p.fld q g) B) r.h
theorem z_ld{a:TypeId}{x:Operand}{b off n:Nat}{path:List Nat}{d0:D}{e:Bool}(j:c.isR=true)(p:ev env x=some (.ref b off path))(hm: .cell b d0∈σ)(h:(zai d0 path,yT d0 path)=(some d,off)){g:List (Nat×Bool×Nat)}{q:List (Nat×List Nat)}{tm:Nat}[r:Tabs P g q tm](u:yV g a=some (e,n))(v:d.isAgg=e)(hn:sz d=n)(w:Rn fz τb P Q X l rest ((t,d)::env) σ):AtO fz τb P Q X l i c rest env σ (some t) ty (.load a x):=by
 refine⟨?_⟩;intro o z A B C F;simp only[Prod.mk.injEq]at h;exact z_r j z A B (qc3 C p hm h.1 h.2 (by rw[v];exact r.ty u) hn) w.h
theorem qDu{j:TypeId}{x y:Operand}{b n:Nat}{d0 e:D}{τ:St}(q:c.isW=true)(h:(ev env x,ev env y)=(some (.ref b 0 []),some e))(r:σ.Perm ([.cell b d0]++τ))(hw:Wk e d){u:Bool}{p:List (Nat×Bool×Nat)}{v:List (Nat×List Nat)}{tm:Nat}[w:Tabs P p v tm](z:yV p j=some (u,n))(a:d.plain=true)(hn:sz d=n)(g:sz d0=n)(A:Rn fz τb P Q X l rest env (.cell b d::τ)):AtO fz τb P Q X l i c rest env σ none ty (.store j x y):=by
 refine⟨?_⟩;intro o B C F G H;simp only[Prod.mk.injEq]at h;refine zcl q B C F (qnZ τ G h.1 h.2 hw r (path:=[]) rfl rfl (w.ty z) hn g a) fun _ σ' e=>?_;subst e;exact A.h
theorem zb5{q:TypeId}{x y:Operand}{b off n:Nat}{path:List Nat}{d0 a e:D}{τ:St}(d':List D)(u:c.isW=true)(h:(ev env x,ev env y)=(some (.ref b off path),some e))(v:σ.Perm ([.cell b d0]++τ))(hs:(zai d0 path,yT d0 path)=(some a,off))(hw:Wk e d){w:Bool}{r:List (Nat×Bool×Nat)}{z:List (Nat×List Nat)}{tm:Nat}[A:Tabs P r z tm](B:yV r q=some (w,n))(g:d.plain=true)(hn:sz d=n)(j:sz a=n)(p:zaF d0 path d= .agg d')(C:Rn fz τb P Q X l rest env (.cell b (.agg d')::τ)):AtO fz τb P Q X l i c rest env σ none ty (.store q x y):=by
 refine⟨?_⟩;intro o F G H I J;simp only[Prod.mk.injEq]at h hs;refine zcl u F G H (qnZ τ I h.1 h.2 hw v hs.1 hs.2 (A.ty B) hn j g) fun _ σ' e=>?_;subst e;rw[p];exact C.h
theorem qB9{α β:Type}{f:α→D}{x y:Operand}{j e:TypeId}{s by_ n:Nat}{u:Value}{L m:List α}{q w:D}{τ:St}{g:List α→Option β}{v:β}(z:c.isW=true)(hr:(appO by_ L m).bind g=some v)(h:(ev env x,ev env y)=(some q,some w))[A:ElI P j e s by_][hF:EF P e α f s](B:q= .own u (L.map f))(hy:asL w=some (m.map f))(C:σ.Perm ([.row u n e s]++τ))(hn:n=L.length)(F:∀r b,appO by_ L m=some r→g r=some v→Rn fz τb P Q X l rest ((t,.own b (r.map f))::env) (.row b r.length e s::τ)):AtO fz τb P Q X l i c rest env σ (some t) ty (.call {callee:=.builtin .append,args:=#[x,y],argTypes:=#[j,j]}):=by
 obtain⟨r,a,p⟩:=zV hr;refine⟨?_⟩;intro o G H I J M;simp only[Prod.mk.injEq]at h;subst B;refine z_w z G H I (qlj L m J A.h h.1 h.2 (asl hy) C hn hF.h a) fun d' σ' e=>?_;obtain⟨b,rfl,rfl⟩:=e;exact(F r b a p).h
theorem qCK{α β:Type}{f:α→D}{x y:Operand}{b e:TypeId}{s by_:Nat}{L m:List α}{n p:D}{g:List α→Option β}{v:β}(hr:(appO by_ L m).bind g=some v)(h:(ev env x,ev env y)=(some n,some p))[q:ElI P b e s by_][hF:EF P e α f s](u:n= .full (L.map f))(hy:asL p=some (m.map f))(w:∀r,appO by_ L m=some r→g r=some v→Rn fz τb P Q X l rest ((t,.lst (r.map f))::env) σ):AtO fz τb P Q X l i c rest env σ (some t) ty (.call {callee:=.builtin .append,args:=#[x,y],argTypes:=#[b,b]}):=by
 obtain⟨r,a,j⟩:=zV hr;refine⟨?_⟩;intro o z A B C F;simp only[Prod.mk.injEq]at h;obtain⟨G,H⟩:=h;subst u;exact z_d z A B (qnQ L m C q.h G H (asl hy) hF.h a) (w r a j).h
def wkn:D→D |.own _ l=>.lst l |.full l=>.lst l |d=>d
theorem qCd(d:D):Wk d (wkn d):=by
 cases d<;>first|exact Wk.own _ _|exact Wk.full _|exact Wk.refl _
instance(t:T):SzI (wkn (zg t)) 4:=⟨qkK t⟩
instance(b:Int×T):SzI (wkn (zw b)) 5:=⟨qfp b⟩
instance(t:T):SzI (zg t) 4:=⟨qkK t⟩
instance{ds:List D}{n:Nat}[h:SzI (.agg ds) n]:SzI (wkn (.agg ds)) n:=⟨h.h⟩
def evw(env:Env):List Operand→Option (List D)
 |[]=>some []
 |x::xs=>match ev env x with
  |none=>none
  |some d=>match evw env xs with
   |none=>none
   |some ds=>some (wkn d::ds)
theorem qpE:∀(xs:List Operand)(ds:List D),evw env xs=some ds→yZ (ev env) xs ds
 |[],ds,h=>by
  simp only[evw,Option.some.injEq]at h;subst h;exact .nil
 |x::xs,ds,h=>by
  simp only[evw]at h;split at h
  cases h;rename_i d hd
  split at h
  cases h;rename_i a b
  cases h;exact .cons hd (qCd d) (qpE xs a b)
def zbz:List (Nat×Operand)→Nat→Option (List Operand)
 |[],_=>some []
 |(j,x)::l,i=>match jX j i with
  |true=>match zbz l (i+1)with
   |some xs=>some (x::xs)
   |none=>none
  |false=>none
theorem qqV:∀(l:List (Nat×Operand))(i:Nat)(xs:List Operand),zbz l i=some xs→l=(xs.zipIdx i).map fun x=>(x.2,x.1)
 |[],i,xs,h=>by
  simp only[zbz,Option.some.injEq]at h;subst h;rfl
 |(j,x)::l,i,xs,h=>by
  simp only[zbz]at h;split at h
  rename_i hb
  split at h
  rename_i ys hy
  cases h;rw[qqV l (i+1) ys hy,Nat.eq_of_beq_eq_true hb];rfl;cases h;cases h
theorem qCY{b e:TypeId}{n s by_:Nat}{parts:Array (Nat×Operand)}{xs:List Operand}{x:D}{ds:List D}(h:(zbz parts.toList 0,xs.length,evw env xs)=(some xs,n,some (x::ds)))[p:ElI P b e s by_](q:zx s (x::ds))(r:(x::ds).all D.plain=true)(a:n*s≤16777216)(u:Rn fz τb P Q X l rest ((t,.full (x::ds))::env) σ):AtO fz τb P Q X l i c rest env σ (some t) ty (.buildSlice b n parts):=by
 refine⟨?_⟩;intro o v w z A B;simp only[Prod.mk.injEq]at h;obtain⟨C,g,j⟩:=h;refine z_d v w z (qAH xs A p.h (qqV _ _ _ C) g.symm ?_ a (qpE _ _ j) q (zci r)) u.h;cases xs with
 |nil=>cases j
 |cons y ys=>rw[←g];simp
theorem qxk{a e:TypeId}{s by_:Nat}{parts:Array (Nat×Operand)}(h:parts.toList=[])[b:ElI P a e s by_](g:Rn fz τb P Q X l rest ((t,.full [])::env) σ):AtO fz τb P Q X l i c rest env σ (some t) ty (.buildSlice a 0 parts):=by
 refine⟨?_⟩;intro o j n p q r;have u:=h;exact z_d j n p (qrU q b.h u) g.h
def zcx(env:Env):List D→List (Nat×Operand)→Prop→Option (List D×Prop)
 |zs,[],C=>some (zs,C)
 |zs,(j,x)::ps,C=>match ev env x with
  |none=>none
  |some d=>match zs[j]? with
   |none=>none
   |some z=>match d with
    |.own _ l=>zcx env (zs.set j (.lst l)) ps (Bo C (sz z=1))
    |.full l=>zcx env (zs.set j (.lst l)) ps (Bo C (sz z=1))
    |_=>zcx env (zs.set j d) ps (Bo C (Bo (sz d=sz z) (d.plain=true)))
theorem qnG:∀(ps:List (Nat×Operand))(zs e:List D)(C p:Prop),zcx env zs ps C=some (e,p)→p→C∧∃n,Pts (ev env) ps n∧zcH zs n e
 |[],zs,e,C,p,h,q=>by
  simp only[zcx,Option.some.injEq,Prod.mk.injEq]at h;obtain⟨rfl,rfl⟩:=h;exact⟨q,[],.nil,.nil _⟩
 |(j,x)::ps,zs,e,C,p,h,q=>by
  simp only[zcx]at h;split at h
  cases h;rename_i d hd
  split at h
  cases h;rename_i z v
  split at h
  obtain⟨g,n,r,u⟩:=qnG ps _ e _ p h q;exact⟨g.a,(j,.lst _)::n,.cons hd (Wk.own _ _) r,.cons v g.b.symm rfl u⟩;obtain⟨g,n,r,u⟩:=qnG ps _ e _ p h q;exact⟨g.a,(j,.lst _)::n,.cons hd (Wk.full _) r,.cons v g.b.symm rfl u⟩;obtain⟨g,n,r,u⟩:=qnG ps _ e _ p h q;exact⟨g.a,(j,d)::n,.cons hd (Wk.refl _) r,.cons v g.b.a g.b.b u⟩
theorem qrg{b:TypeId}{parts:Array (Nat×Operand)}{zs:List D}{C:Prop}[e:BtI P b zs](a:List D)(hb:zcx env zs parts.toList True=some (a,C))(g:C)(j:Rn fz τb P Q X l rest ((t,.agg a)::env) σ):AtO fz τb P Q X l i c rest env σ (some t) ty (.build b parts):=by
 refine⟨?_⟩;intro o n p q r u;obtain⟨_,x,v,w⟩:=qnG _ _ _ _ _ hb g;exact z_d n p q (qgS r e.h v w) j.h
theorem qDk{α β:Type}{f:α→D}{j e:TypeId}{x:Operand}{low high:Option Operand}{s by_:Nat}{p:D}{L:List α}{lo hi:Int}{g:List α→Option β}{v:β}(hr:(subO L lo hi).bind g=some v)(h:(ev env x,asL p)=(some p,some (L.map f)))[q:ElI P j e s by_][hF:EF P e α f s](u:∀n:Nat,(n:Int)=lo→za2 (ev env) low n)(w:∀n:Nat,(n:Int)=hi→za1 (ev env) L.length high n)(z:∀r,subO L lo hi=some r→g r=some v→Rn fz τb P Q X l rest ((t,.lst (r.map f))::env) σ):AtO fz τb P Q X l i c rest env σ (some t) ty (.slice j x low high none):=by
 obtain⟨r,a,b⟩:=zV hr;refine⟨?_⟩;intro o A B C F G;simp only[Prod.mk.injEq]at h;obtain⟨H,I⟩:=h;exact z_d A B C (qC8 L lo hi F q.h H (asl I) u w hF.h a) (z r a b).h
theorem qDC{g:Fn}{first cap:Array Operand}{a cs:List D}(h:(first.toList.mapM (ev env),cap.toList.mapM (ev env))=(some a,some cs))(b:Rn fz τb P Q X l rest ((t,.clo g a cs)::env) σ):AtO fz τb P Q X l i c rest env σ (some t) ty (.makeFunc g first cap):=by
 refine⟨?_⟩;intro o e j n p q;simp only[Prod.mk.injEq]at h;exact z_d e j n (qfW p h.1 h.2) b.h
def evL(ρ:Operand→Option D):List Operand→Option (List D)
 |[]=>some []
 |x::xs=>match ρ x,evL ρ xs with
  |some d,some ds=>some (d::ds)
  |_,_=>none
theorem qlk{ρ:Operand→Option D}:∀{xs:List Operand}{ds:List D},evL ρ xs=some ds→yZ ρ xs ds
 |[],ds,h=>by cases h;exact .nil
 |x::xs,ds,h=>by
  simp only[evL]at h;split at h
  rename_i d a b e
  cases h;exact .cons b (Wk.refl _) (qlk e);cases h
theorem z_cv{α β:Type}{q:Option α}{g:α→Option β}{v:β}{f:FuncId}{x:Operand}{args:Array Operand}{b:Array TypeId}{ds e cs all:List D}{j:α→D}(hr:q.bind g=some v)(p:ev env x=some (.clo (.func f) e cs))[u:CaI P f][w:Cb P f q all j](z:evL (ev env) args.toList=some ds)(a:e++ds++cs=all)(A:∀r,q=some r→g r=some v→Rn fz τb P Q X l rest ((t,j r)::env) σ):AtO fz τb P Q X l i c rest env σ (some t) ty (.call {callee:=.value x,args:=args,argTypes:=b}):=by
 refine⟨?_⟩;intro o B C F G H;obtain⟨r,n,I⟩:=zV hr;exact z_d B C F (qiQ G p u.h (qlk z) a (w.h r n)) (A r n I).h
theorem qBa{β:Type}{n e:TypeId}{s by_:Nat}{x y:Operand}{k p:IntKind}{b:Int}{g:Nat→Option β}{v:β}(q:c.isW=true)(hr:(zad by_ b).bind g=some v)(h:(ev env x,ev env y)=(some (.int k 0),some (.int p b)))[w:ElI P n e s by_](z:∀r u,zad by_ b=some r→g r=some v→Rn fz τb P Q X l rest ((t,.own u [])::env) (.row u 0 e s::σ)):AtO fz τb P Q X l i c rest env σ (some t) ty (.makeSlice n x y):=by
 refine⟨?_⟩;intro o A B C F G;obtain⟨r,a,j⟩:=zV hr;simp only[Prod.mk.injEq]at h;refine z_w q A B C (qzV (α:=Unit) (f:=fun _=>.undef) F w.h h.1 h.2 a) fun d' σ' e=>?_;obtain⟨u,rfl,rfl⟩:=e;exact(z r u a j).h
theorem qDD{t1 t2:TypeId}{x y:Operand}{m n:Int}(h:(ev env x,ev env y)=(some (.int .i64 m),some (.int .i64 n)))(a:Rn fz τb P Q X l rest ((t,.int .i64 (zap m n))::env) σ):AtO fz τb P Q X l i c rest env σ (some t) ty (.call {callee:=.builtin .max,args:=#[x,y],argTypes:=#[t1,t2]}):=by
 refine⟨?_⟩;intro o b e g j p;simp only[Prod.mk.injEq]at h;exact z_d b e g (qDB j h.1 h.2) a.h
theorem qDq{t1 t2:TypeId}{x y:Operand}{m n:Int}(h:(ev env x,ev env y)=(some (.int .i64 m),some (.int .i64 n)))(a:Rn fz τb P Q X l rest ((t,.int .i64 (zav m n))::env) σ):AtO fz τb P Q X l i c rest env σ (some t) ty (.call {callee:=.builtin .min,args:=#[x,y],argTypes:=#[t1,t2]}):=by
 refine⟨?_⟩;intro o b e g j p;simp only[Prod.mk.injEq]at h;exact z_d b e g (qDt j h.1 h.2) a.h
class WtI(P:Program)(te:TypeId){α:Type}(key:outParam (α→D))(vk:outParam (α→Value)):Prop where
 h:zbG P te key vk
theorem qDM{α:Type}[DecidableEq α]{key:α→D}{vk:α→Value}{e t2:TypeId}{x y:Operand}{a b:α}[g:WtI P e key vk](h:(ev env x,ev env y)=(some (key a),some (key b)))(j:Rn fz τb P Q X l rest ((t,.bool (decide (a=b)))::env) σ):AtO fz τb P Q X l i c rest env σ (some t) ty (.binOp .eql e x y t2):=by
 refine⟨?_⟩;intro o n p q r u;simp only[Prod.mk.injEq]at h;exact z_d n p q (qDO r g.h h.1 h.2) j.h
theorem qC1{e t2:TypeId}{x y:Operand}{a b:Bool}(h:(ev env x,ev env y)=(some (.bool a),some (.bool b)))(g:P.underlying e=some .bool)(j:Rn fz τb P Q X l rest ((t,.bool (a==b))::env) σ):AtO fz τb P Q X l i c rest env σ (some t) ty (.binOp .eql e x y t2):=by
 refine⟨?_⟩;intro o n p q r u;simp only[Prod.mk.injEq]at h;exact z_d n p q (qBY r g h.1 h.2) j.h
theorem qDd{e t2:TypeId}{x y:Operand}{a b:Bool}(h:(ev env x,ev env y)=(some (.bool a),some (.bool b)))(g:P.underlying e=some .bool)(j:Rn fz τb P Q X l rest ((t,.bool (a !=b))::env) σ):AtO fz τb P Q X l i c rest env σ (some t) ty (.binOp .neq e x y t2):=by
 refine⟨?_⟩;intro o n p q r u;simp only[Prod.mk.injEq]at h;exact z_d n p q (qzy r g h.1 h.2) j.h
theorem qAO{a e:TypeId}{s by_:Nat}{parts:Array (Nat×Operand)}(b:c.isW=true)(h:(parts.toList,τb.ow.any (jX t))=([],true))[g:ElI P a e s by_](j:∀u,Rn fz τb P Q X l rest ((t,.own u [])::env) (.row u 0 e s::σ)):AtO fz τb P Q X l i c rest env σ (some t) ty (.buildSlice a 0 parts):=by
 refine⟨?_⟩;intro o n p q r v;simp only[Prod.mk.injEq]at h;refine z_w b n p q (qvV r g.h h.1) fun d' σ' e=>?_;obtain⟨u,rfl,rfl⟩:=e;exact(j u).h
end
section
variable{τb:Tb}{fz:List Nat}{Q:Env→St→Prop}
variable{P:Program}{X:Env→D→St→Prop}{l:List Oper}{i:Nat}{c:Cls}{o:Oper}{t:Nat}{ty:TypeId}{d:D}{env:Env}{σ:St}{rest:List (Nat×Cls)}
theorem qoL{a:List (Nat×Cls)}{b:Env}{C:Prop}{r:List (Nat×Cls)}{e:Env}{g:List (Nat×Bool×Nat)}{j:List (Nat×List Nat)}{tm:Nat}[n:Tabs P g j tm](h:zq g j tm l τb.ow [] r e= .mk a b C)(p:C)(q:Rn fz τb P Q X l a b σ):Rn fz τb P Q X l r e σ:=⟨qtN n h q.h p⟩
theorem qwl{s:Nat}{d:D}{a:List (Nat×Cls)}{b:Env}{C:Prop}{r:List (Nat×Cls)}{e:Env}{g:List (Nat×Bool×Nat)}{j:List (Nat×List Nat)}{tm:Nat}[n:Tabs P g j tm](_:lk e s=some d)(h:zq g j tm l τb.ow [s] r e= .mk a b C)(p:C)(q:Rn fz τb P Q X l a b σ):Rn fz τb P Q X l r e σ:=⟨qtN n h q.h p⟩
theorem qpH{μ:Md}{φ:FuncId}{fn:Func}{K:Ctx}{R:D→St→Prop}{κ:List Item}(h:za8 fz τb μ P φ fn K R κ env σ):Rn fz τb P (ze μ P φ fn K R κ) X l [] env σ:=⟨h.h⟩
theorem qDb{e:TypeId}{x:Operand}(h:(ev env x,τb.rf.any (jX t))=(some d,false))(a:d.plain=true)(b:Rn fz τb P Q X l rest ((t,.ptr d)::env) σ):AtO fz τb P Q X l i c rest env σ (some t) ty (.box e x):=by
 refine⟨?_⟩;intro o g j n p q;simp only[Prod.mk.injEq]at h;obtain⟨r,_⟩:=h;exact z_d g j n (ql5 p r a) b.h
theorem qr6(t:T):zg t= .agg [.int .i64 t.k,.int .i64 t.i,.str t.s,.lst (t.ar.map zg)]:=by
 rw[zg,qho]
theorem qAm{e:TypeId}{x:Operand}{t0:T}(g:c.isW=true)(h:(ev env x,τb.ot.any (jX t))=(some (zg t0),true))(j:∀b,Rn fz τb P Q X l rest ((t,.ref b 0 [])::env) (.cell b (.agg [.int .i64 t0.k,.int .i64 t0.i,.str t0.s,.lst (t0.ar.map zg)])::σ)):AtO fz τb P Q X l i c rest env σ (some t) ty (.box e x):=by
 refine⟨?_⟩;intro o n p q r u;simp only[Prod.mk.injEq]at h;obtain⟨a,_⟩:=h;rw[qr6]at a;refine z_w g n p q (qk2 r a rfl) fun d' σ' e=>?_;obtain⟨b,rfl,rfl⟩:=e;exact(j b).h
theorem qBt{g:TypeId}{y:Operand}{b s n:Nat}{d0:D}{t0:T}{τ:St}(p:c.isW=true)(h:(τb.ot.any (jX s),lk env s,ev env y)=(true,some (.ref b 0 []),some (zg t0)))(q:σ.Perm ([.cell b d0]++τ)){r:Bool}{j:List (Nat×Bool×Nat)}{u:List (Nat×List Nat)}{tm:Nat}[v:Tabs P j u tm](w:yV j g=some (r,n))(hn:4=n)(a:sz d0=n)(z:Rn fz τb P Q X l rest env (.cell b (.agg [.int .i64 t0.k,.int .i64 t0.i,.str t0.s,.lst (t0.ar.map zg)])::τ)):AtO fz τb P Q X l i c rest env σ none ty (.store g (.tmp s) y):=by
 refine⟨?_⟩;intro o A B C F G;simp only[Prod.mk.injEq]at h;rw[qr6]at h;refine zcl p A B C (qnZ τ F (x:=.tmp s) h.2.1 h.2.2 (Wk.refl _) q (path:=[]) rfl rfl (v.ty w) hn a rfl) fun _ σ' e=>?_;subst e;exact z.h
theorem qBP{e:TypeId}{x:Operand}(a:c.isW=true)(h:(ev env x,τb.rf.any (jX t))=(some d,true))(g:d.plain=true)(j:∀b,Rn fz τb P Q X l rest ((t,.ref b 0 [])::env) (.cell b d::σ)):AtO fz τb P Q X l i c rest env σ (some t) ty (.box e x):=by
 refine⟨?_⟩;intro o n p q r u;simp only[Prod.mk.injEq]at h;obtain⟨v,_⟩:=h;refine z_w a n p q (qk2 r v g) fun d' σ' e=>?_;obtain⟨b,rfl,rfl⟩:=e;exact(j b).h
theorem qBe{e:TypeId}{z:D}(a:c.isW=true)[g:ZvI P e z](j:∀b,Rn fz τb P Q X l rest ((t,.ref b 0 [])::env) (.cell b z::σ)):AtO fz τb P Q X l i c rest env σ (some t) ty (.alloc e):=by
 refine⟨?_⟩;intro o n p q r u;refine z_w a n p q (qd2 r g.h) fun d' σ' e=>?_;obtain⟨b,rfl,rfl⟩:=e;exact(j b).h
theorem qB5{a e:TypeId}{s by_:Nat}(b:c.isW=true)(h:τb.ow.any (jX t)=true)[v:ElI P a e s by_](g:∀u,Rn fz τb P Q X l rest ((t,.own u [])::env) (.row u 0 e s::σ)):AtO fz τb P Q X l i c rest env σ (some t) a (.assign (.const (.slice none 0 0))):=by
 refine⟨?_⟩;intro o j n p q r;refine z_w b j n p (qtP e s (.inl q)) fun d' σ' e=>?_;obtain⟨u,rfl,rfl⟩:=e;exact(g u).h
theorem z_br{μ:Md}{φ:FuncId}{fn:Func}{K:Ctx}{R:D→St→Prop}{κ:List Item}{ρ:Type}{b:Bool}{x y:Option ρ}{res:ρ}(s:Nat)(hr:(bif b then x else y)=some res)(hs:lk env s=some (.bool b))(e:b=true→x=some res→Rn fz τb P (ze μ P φ fn K R κ) X l rest ((s,.bool true)::env) σ)(g:b=false→y=some res→Rn fz τb P (ze μ P φ fn K R κ) X l rest ((s,.bool false)::env) σ):Rn fz τb P (ze μ P φ fn K R κ) X l rest env σ:=⟨r_sB s hs hr (fun a b=>(e a b).h) fun a b=>(g a b).h⟩
end
def tabT:List (Nat×Bool×Nat):=[(1,false,1),(2,false,1),(3,false,1),(4,false,1),(5,false,1),(9,false,1),(12,false,1),(17,false,1),(21,false,1),(22,false,1),(23,false,1),(25,true,2),(26,false,1),(28,true,2),(29,true,2),(30,false,1),(31,false,1),(32,false,1),(33,false,1),(34,false,1),(35,false,1),(36,false,1),(38,true,7),(39,false,1),(40,false,1),(41,false,1),(42,false,1),(43,false,1),(45,false,1),(47,false,1),(48,false,1),(49,false,1),(51,false,1),(52,false,1),(53,false,1),(54,false,1),(55,false,1),(56,false,1),(57,false,1),(59,true,6),(60,false,1),(61,false,1),(62,false,1),(64,true,3),(65,false,1),(67,false,1),(68,false,1),(69,false,1),(70,false,1),(72,true,5),(73,false,1),(74,false,1),(75,false,1),(77,true,4),(79,true,2),(81,true,2),(83,true,3),(84,false,1),(85,false,1),(86,false,1),(87,false,1),(89,true,5),(91,true,2),(93,true,7),(94,false,1),(95,false,1),(96,false,1),(97,false,1),(98,false,1),(99,false,1),(100,false,1),(102,true,5),(103,false,1),(104,false,1),(105,false,1),(106,false,1),(108,true,2),(109,false,1),(110,false,1),(111,false,1),(112,false,1),(114,true,2),(115,false,1),(116,false,1),(117,false,1),(118,false,1),(119,false,1),(120,false,1),(121,false,1),(122,false,1),(123,false,1),(124,false,1),(125,false,1),(126,false,1),(127,false,1),(128,false,1),(129,false,1),(130,false,1),(131,false,1),(132,false,1),(133,false,1),(134,false,1),(135,false,1),(136,false,1),(137,false,1),(138,false,1),(139,false,1),(140,false,1),(141,false,1),(142,false,1),(143,false,1),(144,false,1),(145,false,1),(146,false,1),(147,false,1),(148,false,1),(149,false,1),(150,false,1),(151,false,1),(152,false,1),(153,false,1),(154,false,1),(155,false,1),(156,false,1),(157,false,1),(158,false,1),(159,false,1),(160,false,1),(161,false,1),(162,false,1),(163,false,1),(165,false,1),(167,true,3),(168,false,1),(169,false,1),(170,false,1),(172,true,11),(173,true,0),(174,false,1),(175,false,1),(176,false,1),(177,false,1),(178,false,1),(179,false,1),(180,false,1),(181,false,1),(182,false,1),(183,false,1),(184,false,1),(185,false,1),(186,false,1),(187,false,1),(189,true,1),(192,true,2),(193,false,1),(194,false,1),(196,false,1),(197,false,1),(198,false,1),(199,false,1),(200,false,1),(202,false,1),(203,false,1),(204,false,1),(205,false,1),(206,false,1),(207,false,1),(209,true,1),(210,false,1),(211,false,1),(212,false,1),(213,false,1),(215,false,1),(216,false,1),(217,false,1),(218,false,1),(219,false,1),(220,false,1),(221,false,1),(222,false,1),(223,false,1),(224,false,1),(225,false,1),(226,false,1),(227,false,1),(228,false,1),(229,false,1),(231,false,1),(232,false,1),(233,false,1),(234,false,1),(235,false,1),(236,false,1),(237,false,1),(239,false,1),(240,false,1),(241,false,1),(242,false,1),(243,false,1),(244,false,1),(245,false,1),(246,false,1),(247,false,1),(249,true,20),(250,false,1),(252,false,1),(253,false,1),(254,false,1),(255,false,1),(257,false,1),(258,false,1),(260,false,1),(261,false,1),(262,false,1),(264,false,1),(265,false,1),(267,false,1),(268,false,1),(270,false,1),(271,false,1),(272,false,1),(273,false,1),(274,false,1),(275,false,1),(276,false,1),(277,false,1),(278,false,1),(279,false,1),(280,false,1),(282,true,1),(283,false,1),(284,false,1),(285,true,2),(286,true,2),(287,false,1),(288,false,1),(289,false,1),(290,false,1),(291,false,1),(292,false,1),(293,false,1),(294,false,1),(295,false,1),(296,false,1),(297,false,1),(298,false,1),(299,false,1),(300,false,1),(301,false,1),(302,false,1),(303,false,1),(304,false,1),(306,false,1),(308,false,1),(309,false,1),(310,false,1),(311,false,1),(312,false,1),(313,false,1),(314,false,1),(316,false,1),(317,false,1),(318,false,1),(319,false,1),(320,false,1),(321,false,1),(322,false,1),(323,false,1),(324,false,1),(325,false,1),(326,false,1),(327,false,1),(328,false,1),(329,false,1),(330,false,1),(331,false,1),(332,false,1),(333,false,1),(334,false,1),(335,false,1),(336,false,1),(337,false,1),(338,false,1),(339,false,1),(341,false,1),(342,false,1),(343,false,1),(344,false,1),(345,false,1),(346,false,1),(347,false,1),(348,false,1),(349,false,1),(350,false,1),(351,false,1),(352,false,1),(353,false,1),(354,false,1),(355,false,1),(357,false,1),(359,true,8),(360,false,1),(362,true,2),(363,false,1),(364,false,1),(365,false,1),(366,true,2),(367,false,1),(368,false,1),(369,false,1),(370,false,1),(371,false,1),(372,false,1),(373,false,1),(374,false,1),(375,false,1),(376,false,1),(377,false,1),(378,false,1),(379,false,1),(380,false,1),(381,false,1),(382,false,1),(383,false,1),(384,false,1),(385,false,1),(386,false,1),(387,false,1),(389,false,1),(390,false,1),(391,false,1),(392,false,1),(393,false,1),(394,false,1),(395,false,1),(396,false,1),(397,false,1),(398,false,1),(399,false,1),(401,false,1),(402,false,1),(403,false,1),(404,false,1),(405,false,1),(406,false,1),(408,true,6),(409,false,1),(411,true,5),(412,false,1),(414,true,2),(416,false,1),(417,false,1),(418,false,1),(419,false,1),(420,false,1),(421,false,1),(422,false,1),(423,false,1),(424,false,1),(426,false,1),(427,false,1),(428,false,1),(429,false,1),(430,false,1),(432,false,1),(433,false,1),(434,false,1),(442,false,1),(443,false,1)]
def tabF:List (Nat×List Nat):=[(25,[0,1]),(28,[0,1]),(38,[0,1,2,3,4,5,6]),(59,[0,1,2,3,4,5]),(64,[0,1,2]),(72,[0,3,4]),(77,[0,1,2,3]),(79,[0,1]),(81,[0,1]),(83,[0,1]),(89,[0,1,2,3,4]),(91,[0,1]),(93,[0,5]),(102,[0,1]),(108,[0,1]),(114,[0,1]),(167,[0,1,2]),(172,[0,7,9,10]),(189,[0]),(192,[0,1]),(209,[0]),(249,[0,7,10,11,17,18,19]),(282,[0]),(359,[0,4]),(362,[0,1]),(408,[0,1,2,3,4,5]),(411,[0,4]),(414,[0,1])]
instance:Tabs prog tabT tabF 77:=⟨by kernel_rfl,by kernel_rfl⟩
instance:ZvI prog 3 (.int .i64 0):=⟨.val (.int .i64 0) rfl ob rfl⟩
instance:ElI prog 22 79 2 24:=⟨.of underlying22 ob od⟩
instance:ElI prog 23 59 6 120:=⟨.of underlying23 ob od⟩
instance:BtI prog 25 [.lst [],.lst []]:=⟨.mk rfl ob underlying25 ob⟩
instance:ZvI prog 25 (.agg [.lst [],.lst []]):=⟨.agg (BtI.h)⟩
instance:ElI prog 26 64 3 48:=⟨.of underlying26 ob od⟩
instance:ElI prog 32 72 5 64:=⟨.of underlying32 ob od⟩
instance:ZvI prog 32 (.lst []):=⟨.val (.slice none 0 0) rfl ob rfl⟩
instance:ElI prog 33 83 3 48:=⟨.of underlying33 ob od⟩
instance:ElI prog 34 102 5 64:=⟨.of underlying34 ob od⟩
instance:ElI prog 35 102 5 64:=⟨.of underlying35 ob od⟩
instance:ElI prog 36 108 2 32:=⟨.of underlying36 ob od⟩
instance:BtI prog 38 [.lst [],.lst [],.lst [],.lst [],.int .i64 0,.int .i64 0,.bool false]:=⟨.mk rfl ob underlying38 ob⟩
instance:ZvI prog 38 (.agg [.lst [],.lst [],.lst [],.lst [],.int .i64 0,.int .i64 0,.bool false]):=⟨.agg (BtI.h)⟩
instance:ElI prog 42 89 5 56:=⟨.of underlying42 ob od⟩
instance:ZvI prog 43 (.int .i64 0):=⟨.val (.int .i64 0) rfl ob rfl⟩
instance:ElI prog 48 5 1 1:=⟨.of underlying48 ob od⟩
instance:ElI prog 57 81 2 40:=⟨.of underlying57 ob od⟩
instance:BtI prog 59 [.str ⟨#[]⟩,.lst [],.lst [],.lst [],.lst [],.int .i64 0]:=⟨.mk rfl ob underlying59 ob⟩
instance:ZvI prog 59 (.agg [.str ⟨#[]⟩,.lst [],.lst [],.lst [],.lst [],.int .i64 0]):=⟨.agg (BtI.h)⟩
instance:ElI prog 62 77 4 56:=⟨.of underlying62 ob od⟩
instance:BtI prog 64 [.int .i64 0,.str ⟨#[]⟩,.lst []]:=⟨.mk rfl ob underlying64 ob⟩
instance:ZvI prog 64 (.agg [.int .i64 0,.str ⟨#[]⟩,.lst []]):=⟨.agg (BtI.h)⟩
instance:ElI prog 69 167 3 24:=⟨.of underlying69 ob od⟩
instance:BtI prog 72 [.agg [.int .i64 0,.str ⟨#[]⟩,.lst []],.int .i64 0,.int .i64 0]:=⟨.mk rfl ob underlying72 ob⟩
instance:ZvI prog 72 (.agg [.agg [.int .i64 0,.str ⟨#[]⟩,.lst []],.int .i64 0,.int .i64 0]):=⟨.agg (BtI.h)⟩
instance:BtI prog 77 [.int .i64 0,.int .i64 0,.str ⟨#[]⟩,.lst []]:=⟨.mk rfl ob underlying77 ob⟩
instance:ZvI prog 77 (.agg [.int .i64 0,.int .i64 0,.str ⟨#[]⟩,.lst []]):=⟨.agg (BtI.h)⟩
instance:BtI prog 79 [.str ⟨#[]⟩,.int .i64 0]:=⟨.mk rfl ob underlying79 ob⟩
instance:ZvI prog 79 (.agg [.str ⟨#[]⟩,.int .i64 0]):=⟨.agg (BtI.h)⟩
instance:BtI prog 81 [.str ⟨#[]⟩,.lst []]:=⟨.mk rfl ob underlying81 ob⟩
instance:ZvI prog 81 (.agg [.str ⟨#[]⟩,.lst []]):=⟨.agg (BtI.h)⟩
instance:BtI prog 83 [.int .i64 0,.agg [.str ⟨#[]⟩,.lst []]]:=⟨.mk rfl ob underlying83 ob⟩
instance:ZvI prog 83 (.agg [.int .i64 0,.agg [.str ⟨#[]⟩,.lst []]]):=⟨.agg (BtI.h)⟩
instance:ElI prog 84 93 7 104:=⟨.of underlying84 ob od⟩
instance:ElI prog 87 3 1 8:=⟨.of underlying87 ob od⟩
instance:BtI prog 89 [.int .i64 0,.int .i64 0,.int .i64 0,.int .i64 0,.lst []]:=⟨.mk rfl ob underlying89 ob⟩
instance:BtI prog 91 [.lst [],.lst []]:=⟨.mk rfl ob underlying91 ob⟩
instance:ZvI prog 91 (.agg [.lst [],.lst []]):=⟨.agg (BtI.h)⟩
instance:BtI prog 93 [.agg [.int .i64 0,.int .i64 0,.int .i64 0,.int .i64 0,.lst []],.agg [.lst [],.lst []]]:=⟨.mk rfl ob underlying93 ob⟩
instance:BtI prog 102 [.int .i64 0,.agg [.int .i64 0,.int .i64 0,.str ⟨#[]⟩,.lst []]]:=⟨.mk rfl ob underlying102 ob⟩
instance:ZvI prog 102 (.agg [.int .i64 0,.agg [.int .i64 0,.int .i64 0,.str ⟨#[]⟩,.lst []]]):=⟨.agg (BtI.h)⟩
instance:BtI prog 108 [.int .i64 0,.lst []]:=⟨.mk rfl ob underlying108 ob⟩
instance:ZvI prog 108 (.agg [.int .i64 0,.lst []]):=⟨.agg (BtI.h)⟩
instance:BtI prog 114 [.lst [],.bool false]:=⟨.mk rfl ob underlying114 ob⟩
instance:BtI prog 167 [.int .i64 0,.int .i64 0,.bool false]:=⟨.mk rfl ob underlying167 ob⟩
instance:ZvI prog 167 (.agg [.int .i64 0,.int .i64 0,.bool false]):=⟨.agg (BtI.h)⟩
instance:ElI prog 184 91 2 48:=⟨.of underlying184 ob od⟩
instance:BtI prog 189 [.int .i64 0]:=⟨.mk rfl ob underlying189 ob⟩
instance:ZvI prog 189 (.agg [.int .i64 0]):=⟨.agg (BtI.h)⟩
instance:BtI prog 192 [.lst [],.int .i64 0]:=⟨.mk rfl ob underlying192 ob⟩
instance:BtI prog 282 [.int .i64 0]:=⟨.mk rfl ob underlying282 ob⟩
instance:ElI prog 325 57 1 24:=⟨.of underlying325 ob od⟩
instance:ElI prog 326 26 1 24:=⟨.of underlying326 ob od⟩
instance:ElI prog 337 359 8 112:=⟨.of underlying337 ob od⟩
instance:BtI prog 359 [.agg [.int .i64 0,.int .i64 0,.str ⟨#[]⟩,.lst []],.agg [.int .i64 0,.int .i64 0,.str ⟨#[]⟩,.lst []]]:=⟨.mk rfl ob underlying359 ob⟩
instance:ElI prog 376 337 1 24:=⟨.of underlying376 ob od⟩
instance:ElI prog 406 411 5 80:=⟨.of underlying406 ob od⟩
instance:BtI prog 411 [.agg [.int .i64 0,.int .i64 0,.str ⟨#[]⟩,.lst []],.lst []]:=⟨.mk rfl ob underlying411 ob⟩
instance:ZvI prog 411 (.agg [.agg [.int .i64 0,.int .i64 0,.str ⟨#[]⟩,.lst []],.lst []]):=⟨.agg (BtI.h)⟩
instance:BtI prog 414 [.int .i64 0,.int .i64 0]:=⟨.mk rfl ob underlying414 ob⟩
instance:ZvI prog 414 (.agg [.int .i64 0,.int .i64 0]):=⟨.agg (BtI.h)⟩
instance:BtI prog 173 []:=⟨.mk rfl ob underlying173 ob⟩
instance:ZvI prog 173 (.agg []):=⟨yv.agg (BtI.h)⟩
instance:CaI prog 4:=⟨⟨_,_,func4,rfl,by decide⟩⟩
instance:CaI prog 5:=⟨⟨_,_,func5,rfl,by decide⟩⟩
instance:CaI prog 6:=⟨⟨_,_,func6,rfl,by decide⟩⟩
instance:CaI prog 7:=⟨⟨_,_,func7,rfl,by decide⟩⟩
instance:CaI prog 8:=⟨⟨_,_,func8,rfl,by decide⟩⟩
instance:CaI prog 9:=⟨⟨_,_,func9,rfl,by decide⟩⟩
instance:CaI prog 10:=⟨⟨_,_,func10,rfl,by decide⟩⟩
instance:CaI prog 11:=⟨⟨_,_,func11,rfl,by decide⟩⟩
instance:CaI prog 12:=⟨⟨_,_,func12,rfl,by decide⟩⟩
instance:CaI prog 13:=⟨⟨_,_,func13,rfl,by decide⟩⟩
instance:CaI prog 14:=⟨⟨_,_,func14,rfl,by decide⟩⟩
instance:CaI prog 15:=⟨⟨_,_,func15,rfl,by decide⟩⟩
instance:CaI prog 16:=⟨⟨_,_,func16,rfl,by decide⟩⟩
instance:CaI prog 17:=⟨⟨_,_,func17,rfl,by decide⟩⟩
instance:CaI prog 18:=⟨⟨_,_,func18,rfl,by decide⟩⟩
instance:CaI prog 19:=⟨⟨_,_,func19,rfl,by decide⟩⟩
instance:CaI prog 20:=⟨⟨_,_,func20,rfl,by decide⟩⟩
instance:CaI prog 21:=⟨⟨_,_,func21,rfl,by decide⟩⟩
instance:CaI prog 22:=⟨⟨_,_,func22,rfl,by decide⟩⟩
instance:CaI prog 23:=⟨⟨_,_,func23,rfl,by decide⟩⟩
instance:CaI prog 24:=⟨⟨_,_,func24,rfl,by decide⟩⟩
instance:CaI prog 25:=⟨⟨_,_,func25,rfl,by decide⟩⟩
instance:CaI prog 26:=⟨⟨_,_,func26,rfl,by decide⟩⟩
instance:CaI prog 27:=⟨⟨_,_,func27,rfl,by decide⟩⟩
instance:CaI prog 28:=⟨⟨_,_,func28,rfl,by decide⟩⟩
instance:CaI prog 29:=⟨⟨_,_,func29,rfl,by decide⟩⟩
instance:CaI prog 30:=⟨⟨_,_,func30,rfl,by decide⟩⟩
instance:CaI prog 31:=⟨⟨_,_,func31,rfl,by decide⟩⟩
instance:CaI prog 32:=⟨⟨_,_,func32,rfl,by decide⟩⟩
instance:CaI prog 33:=⟨⟨_,_,func33,rfl,by decide⟩⟩
instance:CaI prog 34:=⟨⟨_,_,func34,rfl,by decide⟩⟩
instance:CaI prog 35:=⟨⟨_,_,func35,rfl,by decide⟩⟩
instance:CaI prog 36:=⟨⟨_,_,func36,rfl,by decide⟩⟩
instance:CaI prog 37:=⟨⟨_,_,func37,rfl,by decide⟩⟩
instance:CaI prog 38:=⟨⟨_,_,func38,rfl,by decide⟩⟩
instance:CaI prog 39:=⟨⟨_,_,func39,rfl,by decide⟩⟩
instance:CaI prog 40:=⟨⟨_,_,func40,rfl,by decide⟩⟩
instance:CaI prog 41:=⟨⟨_,_,func41,rfl,by decide⟩⟩
instance:CaI prog 42:=⟨⟨_,_,func42,rfl,by decide⟩⟩
instance:CaI prog 43:=⟨⟨_,_,func43,rfl,by decide⟩⟩
instance:CaI prog 44:=⟨⟨_,_,func44,rfl,by decide⟩⟩
instance:CaI prog 45:=⟨⟨_,_,func45,rfl,by decide⟩⟩
instance:CaI prog 46:=⟨⟨_,_,func46,rfl,by decide⟩⟩
instance:CaI prog 47:=⟨⟨_,_,func47,rfl,by decide⟩⟩
instance:CaI prog 48:=⟨⟨_,_,func48,rfl,by decide⟩⟩
instance:CaI prog 49:=⟨⟨_,_,func49,rfl,by decide⟩⟩
instance:CaI prog 50:=⟨⟨_,_,func50,rfl,by decide⟩⟩
instance:CaI prog 51:=⟨⟨_,_,func51,rfl,by decide⟩⟩
instance:CaI prog 52:=⟨⟨_,_,func52,rfl,by decide⟩⟩
instance:CaI prog 53:=⟨⟨_,_,func53,rfl,by decide⟩⟩
instance:CaI prog 54:=⟨⟨_,_,func54,rfl,by decide⟩⟩
instance:CaI prog 55:=⟨⟨_,_,func55,rfl,by decide⟩⟩
instance:CaI prog 56:=⟨⟨_,_,func56,rfl,by decide⟩⟩
instance:CaI prog 57:=⟨⟨_,_,func57,rfl,by decide⟩⟩
instance:CaI prog 58:=⟨⟨_,_,func58,rfl,by decide⟩⟩
instance:CaI prog 59:=⟨⟨_,_,func59,rfl,by decide⟩⟩
instance:CaI prog 60:=⟨⟨_,_,func60,rfl,by decide⟩⟩
instance:CaI prog 61:=⟨⟨_,_,func61,rfl,by decide⟩⟩
instance:CaI prog 62:=⟨⟨_,_,func62,rfl,by decide⟩⟩
instance:CaI prog 63:=⟨⟨_,_,func63,rfl,by decide⟩⟩
instance:CaI prog 64:=⟨⟨_,_,func64,rfl,by decide⟩⟩
instance:CaI prog 65:=⟨⟨_,_,func65,rfl,by decide⟩⟩
instance:CaI prog 66:=⟨⟨_,_,func66,rfl,by decide⟩⟩
instance:CaI prog 67:=⟨⟨_,_,func67,rfl,by decide⟩⟩
instance:CaI prog 68:=⟨⟨_,_,func68,rfl,by decide⟩⟩
instance:CaI prog 69:=⟨⟨_,_,func69,rfl,by decide⟩⟩
instance:CaI prog 70:=⟨⟨_,_,func70,rfl,by decide⟩⟩
instance:CaI prog 71:=⟨⟨_,_,func71,rfl,by decide⟩⟩
instance:CaI prog 72:=⟨⟨_,_,func72,rfl,by decide⟩⟩
instance:CaI prog 73:=⟨⟨_,_,func73,rfl,by decide⟩⟩
instance:CaI prog 74:=⟨⟨_,_,func74,rfl,by decide⟩⟩
instance:CaI prog 75:=⟨⟨_,_,func75,rfl,by decide⟩⟩
instance:CaI prog 76:=⟨⟨_,_,func76,rfl,by decide⟩⟩
instance:CaI prog 77:=⟨⟨_,_,func77,rfl,by decide⟩⟩
instance:CaI prog 78:=⟨⟨_,_,func78,rfl,by decide⟩⟩
instance:CaI prog 79:=⟨⟨_,_,func79,rfl,by decide⟩⟩
instance:CaI prog 80:=⟨⟨_,_,func80,rfl,by decide⟩⟩
instance:CaI prog 81:=⟨⟨_,_,func81,rfl,by decide⟩⟩
instance:CaI prog 82:=⟨⟨_,_,func82,rfl,by decide⟩⟩
instance:CaI prog 83:=⟨⟨_,_,func83,rfl,by decide⟩⟩
instance:CaI prog 84:=⟨⟨_,_,func84,rfl,by decide⟩⟩
instance:CaI prog 85:=⟨⟨_,_,func85,rfl,by decide⟩⟩
instance:CaI prog 86:=⟨⟨_,_,func86,rfl,by decide⟩⟩
instance:CaI prog 87:=⟨⟨_,_,func87,rfl,by decide⟩⟩
instance:CaI prog 88:=⟨⟨_,_,func88,rfl,by decide⟩⟩
instance:CaI prog 89:=⟨⟨_,_,func89,rfl,by decide⟩⟩
instance:CaI prog 90:=⟨⟨_,_,func90,rfl,by decide⟩⟩
instance:CaI prog 91:=⟨⟨_,_,func91,rfl,by decide⟩⟩
instance:CaI prog 92:=⟨⟨_,_,func92,rfl,by decide⟩⟩
instance:CaI prog 93:=⟨⟨_,_,func93,rfl,by decide⟩⟩
instance:CaI prog 94:=⟨⟨_,_,func94,rfl,by decide⟩⟩
instance:CaI prog 95:=⟨⟨_,_,func95,rfl,by decide⟩⟩
instance:CaI prog 96:=⟨⟨_,_,func96,rfl,by decide⟩⟩
instance:CaI prog 97:=⟨⟨_,_,func97,rfl,by decide⟩⟩
instance:CaI prog 98:=⟨⟨_,_,func98,rfl,by decide⟩⟩
instance:CaI prog 99:=⟨⟨_,_,func99,rfl,by decide⟩⟩
instance:CaI prog 100:=⟨⟨_,_,func100,rfl,by decide⟩⟩
instance:CaI prog 101:=⟨⟨_,_,func101,rfl,by decide⟩⟩
instance:CaI prog 102:=⟨⟨_,_,func102,rfl,by decide⟩⟩
instance:CaI prog 103:=⟨⟨_,_,func103,rfl,by decide⟩⟩
instance:CaI prog 104:=⟨⟨_,_,func104,rfl,by decide⟩⟩
instance:CaI prog 105:=⟨⟨_,_,func105,rfl,by decide⟩⟩
instance:CaI prog 106:=⟨⟨_,_,func106,rfl,by decide⟩⟩
instance:CaI prog 107:=⟨⟨_,_,func107,rfl,by decide⟩⟩
instance:CaI prog 108:=⟨⟨_,_,func108,rfl,by decide⟩⟩
instance:CaI prog 109:=⟨⟨_,_,func109,rfl,by decide⟩⟩
instance:CaI prog 110:=⟨⟨_,_,func110,rfl,by decide⟩⟩
instance:CaI prog 111:=⟨⟨_,_,func111,rfl,by decide⟩⟩
instance:CaI prog 112:=⟨⟨_,_,func112,rfl,by decide⟩⟩
instance:CaI prog 113:=⟨⟨_,_,func113,rfl,by decide⟩⟩
instance:CaI prog 114:=⟨⟨_,_,func114,rfl,by decide⟩⟩
instance:CaI prog 115:=⟨⟨_,_,func115,rfl,by decide⟩⟩
instance:CaI prog 116:=⟨⟨_,_,func116,rfl,by decide⟩⟩
instance:CaI prog 117:=⟨⟨_,_,func117,rfl,by decide⟩⟩
instance:CaI prog 118:=⟨⟨_,_,func118,rfl,by decide⟩⟩
instance:CaI prog 119:=⟨⟨_,_,func119,rfl,by decide⟩⟩
instance:CaI prog 120:=⟨⟨_,_,func120,rfl,by decide⟩⟩
instance:CaI prog 121:=⟨⟨_,_,func121,rfl,by decide⟩⟩
instance:CaI prog 122:=⟨⟨_,_,func122,rfl,by decide⟩⟩
instance:CaI prog 123:=⟨⟨_,_,func123,rfl,by decide⟩⟩
instance:CaI prog 124:=⟨⟨_,_,func124,rfl,by decide⟩⟩
instance:CaI prog 125:=⟨⟨_,_,func125,rfl,by decide⟩⟩
instance:CaI prog 126:=⟨⟨_,_,func126,rfl,by decide⟩⟩
instance:CaI prog 128:=⟨⟨_,_,func128,rfl,by decide⟩⟩
instance:CaI prog 129:=⟨⟨_,_,func129,rfl,by decide⟩⟩
instance:CaI prog 130:=⟨⟨_,_,func130,rfl,by decide⟩⟩
instance:CaI prog 131:=⟨⟨_,_,func131,rfl,by decide⟩⟩
instance:CaI prog 132:=⟨⟨_,_,func132,rfl,by decide⟩⟩
instance:CaI prog 133:=⟨⟨_,_,func133,rfl,by decide⟩⟩
instance:CaI prog 134:=⟨⟨_,_,func134,rfl,by decide⟩⟩
instance:CaI prog 135:=⟨⟨_,_,func135,rfl,by decide⟩⟩
instance:CaI prog 136:=⟨⟨_,_,func136,rfl,by decide⟩⟩
instance:CaI prog 137:=⟨⟨_,_,func137,rfl,by decide⟩⟩
instance:CaI prog 138:=⟨⟨_,_,func138,rfl,by decide⟩⟩
instance:CaI prog 139:=⟨⟨_,_,func139,rfl,by decide⟩⟩
instance:CaI prog 140:=⟨⟨_,_,func140,rfl,by decide⟩⟩
instance:CaI prog 141:=⟨⟨_,_,func141,rfl,by decide⟩⟩
instance:CaI prog 142:=⟨⟨_,_,func142,rfl,by decide⟩⟩
instance:CaI prog 143:=⟨⟨_,_,func143,rfl,by decide⟩⟩
instance:CaI prog 147:=⟨⟨_,_,func147,rfl,by decide⟩⟩
instance:CaI prog 148:=⟨⟨_,_,func148,rfl,by decide⟩⟩
instance:CaI prog 149:=⟨⟨_,_,func149,rfl,by decide⟩⟩
instance:CaI prog 150:=⟨⟨_,_,func150,rfl,by decide⟩⟩
instance:CaI prog 151:=⟨⟨_,_,func151,rfl,by decide⟩⟩
instance:CaI prog 152:=⟨⟨_,_,func152,rfl,by decide⟩⟩
instance:CaI prog 153:=⟨⟨_,_,func153,rfl,by decide⟩⟩
instance:CaI prog 154:=⟨⟨_,_,func154,rfl,by decide⟩⟩
instance:CaI prog 155:=⟨⟨_,_,func155,rfl,by decide⟩⟩
instance:CaI prog 156:=⟨⟨_,_,func156,rfl,by decide⟩⟩
instance:CaI prog 157:=⟨⟨_,_,func157,rfl,by decide⟩⟩
instance:CaI prog 160:=⟨⟨_,_,func160,rfl,by decide⟩⟩
instance:CaI prog 161:=⟨⟨_,_,func161,rfl,by decide⟩⟩
instance:CaI prog 162:=⟨⟨_,_,func162,rfl,by decide⟩⟩
instance:CaI prog 163:=⟨⟨_,_,func163,rfl,by decide⟩⟩
instance:CaI prog 164:=⟨⟨_,_,func164,rfl,by decide⟩⟩
instance:CaI prog 165:=⟨⟨_,_,func165,rfl,by decide⟩⟩
instance:CaI prog 166:=⟨⟨_,_,func166,rfl,by decide⟩⟩
instance:CaI prog 167:=⟨⟨_,_,func167,rfl,by decide⟩⟩
instance:CaI prog 169:=⟨⟨_,_,func169,rfl,by decide⟩⟩
instance:CaI prog 170:=⟨⟨_,_,func170,rfl,by decide⟩⟩
instance:CaI prog 171:=⟨⟨_,_,func171,rfl,by decide⟩⟩
instance:CaI prog 172:=⟨⟨_,_,func172,rfl,by decide⟩⟩
instance:CaI prog 173:=⟨⟨_,_,func173,rfl,by decide⟩⟩
instance:CaI prog 174:=⟨⟨_,_,func174,rfl,by decide⟩⟩
instance:CaI prog 175:=⟨⟨_,_,func175,rfl,by decide⟩⟩
instance:CaI prog 176:=⟨⟨_,_,func176,rfl,by decide⟩⟩
instance:CaI prog 177:=⟨⟨_,_,func177,rfl,by decide⟩⟩
instance:CaI prog 178:=⟨⟨_,_,func178,rfl,by decide⟩⟩
instance:CaI prog 179:=⟨⟨_,_,func179,rfl,by decide⟩⟩
instance:CaI prog 180:=⟨⟨_,_,func180,rfl,by decide⟩⟩
instance:CaI prog 181:=⟨⟨_,_,func181,rfl,by decide⟩⟩
instance:CaI prog 182:=⟨⟨_,_,func182,rfl,by decide⟩⟩
instance:CaI prog 183:=⟨⟨_,_,func183,rfl,by decide⟩⟩
instance:CaI prog 184:=⟨⟨_,_,func184,rfl,by decide⟩⟩
instance:CaI prog 185:=⟨⟨_,_,func185,rfl,by decide⟩⟩
instance:CaI prog 186:=⟨⟨_,_,func186,rfl,by decide⟩⟩
instance:CaI prog 187:=⟨⟨_,_,func187,rfl,by decide⟩⟩
instance:CaI prog 188:=⟨⟨_,_,func188,rfl,by decide⟩⟩
instance:CaI prog 189:=⟨⟨_,_,func189,rfl,by decide⟩⟩
instance:CaI prog 190:=⟨⟨_,_,func190,rfl,by decide⟩⟩
instance:CaI prog 191:=⟨⟨_,_,func191,rfl,by decide⟩⟩
instance:CaI prog 192:=⟨⟨_,_,func192,rfl,by decide⟩⟩
instance:CaI prog 193:=⟨⟨_,_,func193,rfl,by decide⟩⟩
instance:CaI prog 194:=⟨⟨_,_,func194,rfl,by decide⟩⟩
instance:CaI prog 195:=⟨⟨_,_,func195,rfl,by decide⟩⟩
instance:CaI prog 196:=⟨⟨_,_,func196,rfl,by decide⟩⟩
instance:CaI prog 197:=⟨⟨_,_,func197,rfl,by decide⟩⟩
instance:CaI prog 198:=⟨⟨_,_,func198,rfl,by decide⟩⟩
instance:CaI prog 199:=⟨⟨_,_,func199,rfl,by decide⟩⟩
instance:CaI prog 200:=⟨⟨_,_,func200,rfl,by decide⟩⟩
instance:CaI prog 201:=⟨⟨_,_,func201,rfl,by decide⟩⟩
instance:CaI prog 202:=⟨⟨_,_,func202,rfl,by decide⟩⟩
instance:CaI prog 204:=⟨⟨_,_,func204,rfl,by decide⟩⟩
instance:CaI prog 205:=⟨⟨_,_,func205,rfl,by decide⟩⟩
instance:CaI prog 207:=⟨⟨_,_,func207,rfl,by decide⟩⟩
instance:CaI prog 211:=⟨⟨_,_,func211,rfl,by decide⟩⟩
instance:CaI prog 213:=⟨⟨_,_,func213,rfl,by decide⟩⟩
instance:CaI prog 214:=⟨⟨_,_,func214,rfl,by decide⟩⟩
instance:CaI prog 215:=⟨⟨_,_,func215,rfl,by decide⟩⟩
instance:CaI prog 216:=⟨⟨_,_,func216,rfl,by decide⟩⟩
instance:CaI prog 217:=⟨⟨_,_,func217,rfl,by decide⟩⟩
instance:CaI prog 220:=⟨⟨_,_,func220,rfl,by decide⟩⟩
instance:CaI prog 221:=⟨⟨_,_,func221,rfl,by decide⟩⟩
instance:CaI prog 225:=⟨⟨_,_,func225,rfl,by decide⟩⟩
instance:CaI prog 226:=⟨⟨_,_,func226,rfl,by decide⟩⟩
instance:CaI prog 227:=⟨⟨_,_,func227,rfl,by decide⟩⟩
instance:CaI prog 228:=⟨⟨_,_,func228,rfl,by decide⟩⟩
instance:CaI prog 229:=⟨⟨_,_,func229,rfl,by decide⟩⟩
instance:CaI prog 230:=⟨⟨_,_,func230,rfl,by decide⟩⟩
instance:CaI prog 231:=⟨⟨_,_,func231,rfl,by decide⟩⟩
instance:CaI prog 234:=⟨⟨_,_,func234,rfl,by decide⟩⟩
instance:CaI prog 235:=⟨⟨_,_,func235,rfl,by decide⟩⟩
instance:CaI prog 236:=⟨⟨_,_,func236,rfl,by decide⟩⟩
instance:CaI prog 238:=⟨⟨_,_,func238,rfl,by decide⟩⟩
instance:CaI prog 239:=⟨⟨_,_,func239,rfl,by decide⟩⟩
instance:CaI prog 240:=⟨⟨_,_,func240,rfl,by decide⟩⟩
instance:CaI prog 241:=⟨⟨_,_,func241,rfl,by decide⟩⟩
instance:CaI prog 242:=⟨⟨_,_,func242,rfl,by decide⟩⟩
instance:CaI prog 243:=⟨⟨_,_,func243,rfl,by decide⟩⟩
instance:CaI prog 244:=⟨⟨_,_,func244,rfl,by decide⟩⟩
instance:CaI prog 245:=⟨⟨_,_,func245,rfl,by decide⟩⟩
instance:CaI prog 246:=⟨⟨_,_,func246,rfl,by decide⟩⟩
instance:CaI prog 247:=⟨⟨_,_,func247,rfl,by decide⟩⟩
instance:CaI prog 248:=⟨⟨_,_,func248,rfl,by decide⟩⟩
instance:CaI prog 249:=⟨⟨_,_,func249,rfl,by decide⟩⟩
instance:CaI prog 250:=⟨⟨_,_,func250,rfl,by decide⟩⟩
instance:CaI prog 251:=⟨⟨_,_,func251,rfl,by decide⟩⟩
instance:CaI prog 252:=⟨⟨_,_,func252,rfl,by decide⟩⟩
instance:CaI prog 253:=⟨⟨_,_,func253,rfl,by decide⟩⟩
instance:CaI prog 254:=⟨⟨_,_,func254,rfl,by decide⟩⟩
instance:CaI prog 255:=⟨⟨_,_,func255,rfl,by decide⟩⟩
instance:CaI prog 256:=⟨⟨_,_,func256,rfl,by decide⟩⟩
instance:CaI prog 257:=⟨⟨_,_,func257,rfl,by decide⟩⟩
instance:CaI prog 258:=⟨⟨_,_,func258,rfl,by decide⟩⟩
instance:CaI prog 259:=⟨⟨_,_,func259,rfl,by decide⟩⟩
instance:CaI prog 260:=⟨⟨_,_,func260,rfl,by decide⟩⟩
instance:CaI prog 261:=⟨⟨_,_,func261,rfl,by decide⟩⟩
instance:CaI prog 262:=⟨⟨_,_,func262,rfl,by decide⟩⟩
instance:CaI prog 272:=⟨⟨_,_,func272,rfl,by decide⟩⟩
instance:CaI prog 273:=⟨⟨_,_,func273,rfl,by decide⟩⟩
instance:CaI prog 274:=⟨⟨_,_,func274,rfl,by decide⟩⟩
instance:CaI prog 277:=⟨⟨_,_,func277,rfl,by decide⟩⟩
instance:CaI prog 278:=⟨⟨_,_,func278,rfl,by decide⟩⟩
instance:CaI prog 279:=⟨⟨_,_,func279,rfl,by decide⟩⟩
instance:CaI prog 280:=⟨⟨_,_,func280,rfl,by decide⟩⟩
instance:CaI prog 281:=⟨⟨_,_,func281,rfl,by decide⟩⟩
instance:CaI prog 282:=⟨⟨_,_,func282,rfl,by decide⟩⟩
instance:CaI prog 283:=⟨⟨_,_,func283,rfl,by decide⟩⟩
instance:CaI prog 284:=⟨⟨_,_,func284,rfl,by decide⟩⟩
instance:CaI prog 285:=⟨⟨_,_,func285,rfl,by decide⟩⟩
instance:CaI prog 286:=⟨⟨_,_,func286,rfl,by decide⟩⟩
instance:CaI prog 287:=⟨⟨_,_,func287,rfl,by decide⟩⟩
instance:CaI prog 288:=⟨⟨_,_,func288,rfl,by decide⟩⟩
instance:CaI prog 289:=⟨⟨_,_,func289,rfl,by decide⟩⟩
instance:CaI prog 290:=⟨⟨_,_,func290,rfl,by decide⟩⟩
instance:CaI prog 291:=⟨⟨_,_,func291,rfl,by decide⟩⟩
instance:CaI prog 292:=⟨⟨_,_,func292,rfl,by decide⟩⟩
instance:CaI prog 293:=⟨⟨_,_,func293,rfl,by decide⟩⟩
instance:CaI prog 294:=⟨⟨_,_,func294,rfl,by decide⟩⟩
instance:CaI prog 295:=⟨⟨_,_,func295,rfl,by decide⟩⟩
instance:CaI prog 296:=⟨⟨_,_,func296,rfl,by decide⟩⟩
instance:CaI prog 297:=⟨⟨_,_,func297,rfl,by decide⟩⟩
instance:CaI prog 302:=⟨⟨_,_,func302,rfl,by decide⟩⟩
instance:CaI prog 304:=⟨⟨_,_,func304,rfl,by decide⟩⟩
instance:CaI prog 305:=⟨⟨_,_,func305,rfl,by decide⟩⟩
instance:CaI prog 306:=⟨⟨_,_,func306,rfl,by decide⟩⟩
instance:CaI prog 307:=⟨⟨_,_,func307,rfl,by decide⟩⟩
instance:CaI prog 308:=⟨⟨_,_,func308,rfl,by decide⟩⟩
instance:CaI prog 309:=⟨⟨_,_,func309,rfl,by decide⟩⟩
instance:CaI prog 310:=⟨⟨_,_,func310,rfl,by decide⟩⟩
instance:CaI prog 311:=⟨⟨_,_,func311,rfl,by decide⟩⟩
instance:CaI prog 312:=⟨⟨_,_,func312,rfl,by decide⟩⟩
instance:CaI prog 313:=⟨⟨_,_,func313,rfl,by decide⟩⟩
instance:CaI prog 314:=⟨⟨_,_,func314,rfl,by decide⟩⟩
instance:CaI prog 315:=⟨⟨_,_,func315,rfl,by decide⟩⟩
instance:CaI prog 316:=⟨⟨_,_,func316,rfl,by decide⟩⟩
instance:CaI prog 319:=⟨⟨_,_,func319,rfl,by decide⟩⟩
instance:CaI prog 320:=⟨⟨_,_,func320,rfl,by decide⟩⟩
instance:CaI prog 324:=⟨⟨_,_,func324,rfl,by decide⟩⟩
instance:CaI prog 325:=⟨⟨_,_,func325,rfl,by decide⟩⟩
instance:CaI prog 326:=⟨⟨_,_,func326,rfl,by decide⟩⟩
instance:CaI prog 327:=⟨⟨_,_,func327,rfl,by decide⟩⟩
instance:CaI prog 328:=⟨⟨_,_,func328,rfl,by decide⟩⟩
instance:CaI prog 329:=⟨⟨_,_,func329,rfl,by decide⟩⟩
instance:CaI prog 330:=⟨⟨_,_,func330,rfl,by decide⟩⟩
instance:CaI prog 331:=⟨⟨_,_,func331,rfl,by decide⟩⟩
instance:CaI prog 332:=⟨⟨_,_,func332,rfl,by decide⟩⟩
instance:CaI prog 333:=⟨⟨_,_,func333,rfl,by decide⟩⟩
instance:CaI prog 334:=⟨⟨_,_,func334,rfl,by decide⟩⟩
instance:CaI prog 335:=⟨⟨_,_,func335,rfl,by decide⟩⟩
instance:CaI prog 336:=⟨⟨_,_,func336,rfl,by decide⟩⟩
instance:CaI prog 337:=⟨⟨_,_,func337,rfl,by decide⟩⟩
instance:CaI prog 349:=⟨⟨_,_,func349,rfl,by decide⟩⟩
instance:CaI prog 350:=⟨⟨_,_,func350,rfl,by decide⟩⟩
instance:CaI prog 357:=⟨⟨_,_,func357,rfl,by decide⟩⟩
instance:CaI prog 358:=⟨⟨_,_,func358,rfl,by decide⟩⟩
instance:CaI prog 359:=⟨⟨_,_,func359,rfl,by decide⟩⟩
instance:CaI prog 360:=⟨⟨_,_,func360,rfl,by decide⟩⟩
instance:CaI prog 361:=⟨⟨_,_,func361,rfl,by decide⟩⟩
instance:CaI prog 362:=⟨⟨_,_,func362,rfl,by decide⟩⟩
instance:CaI prog 363:=⟨⟨_,_,func363,rfl,by decide⟩⟩
instance:CaI prog 364:=⟨⟨_,_,func364,rfl,by decide⟩⟩
instance:CaI prog 365:=⟨⟨_,_,func365,rfl,by decide⟩⟩
instance:CaI prog 366:=⟨⟨_,_,func366,rfl,by decide⟩⟩
instance:CaI prog 367:=⟨⟨_,_,func367,rfl,by decide⟩⟩
instance:CaI prog 368:=⟨⟨_,_,func368,rfl,by decide⟩⟩
instance:CaI prog 369:=⟨⟨_,_,func369,rfl,by decide⟩⟩
instance:CaI prog 370:=⟨⟨_,_,func370,rfl,by decide⟩⟩
instance:CaI prog 371:=⟨⟨_,_,func371,rfl,by decide⟩⟩
instance:CaI prog 372:=⟨⟨_,_,func372,rfl,by decide⟩⟩
instance:CaI prog 373:=⟨⟨_,_,func373,rfl,by decide⟩⟩
instance:CaI prog 374:=⟨⟨_,_,func374,rfl,by decide⟩⟩
instance:CaI prog 375:=⟨⟨_,_,func375,rfl,by decide⟩⟩
instance:CaI prog 385:=⟨⟨_,_,func385,rfl,by decide⟩⟩
instance:CaI prog 388:=⟨⟨_,_,func388,rfl,by decide⟩⟩
instance:CaI prog 391:=⟨⟨_,_,func391,rfl,by decide⟩⟩
def zaM(es:Array MapEntry)(st:Int)(v:Value):Prop:=∃(j:Nat)(e:MapEntry),es.toList[j]? =some e∧(e.born:Int)=st∧zA v es.toList 0=some (j,e.val)
theorem quU{es:Array MapEntry}{st:Int}{v:Value}(hn:(es.toList.map (·.born)).Nodup)(h:zaM es st v):∃(j:Nat)(e:MapEntry),es.findIdx? (fun e=>(e.born:Int)==st)=some j∧es.toList[j]? =some e∧zA v es.toList 0=some (j,e.val):=by
 obtain⟨j,e,a,p,q⟩:=h;have n:j<es.size:=by simpa using(jd.1 a).1
 have he:es[j]=e:=by
  have:=(jd.1 a).2;simpa using this
 refine⟨j,e,?_,a,q⟩;rw[Array.findIdx?_eq_some_iff_getElem];refine⟨n,by simp[he,p],fun i hi=>?_⟩;have b:i<es.size:=by omega
 have g:es[i].born≠es[j].born:=fun r=>by
  have:=(List.nodup_iff_pairwise_ne.1 hn)
  have u:=JG.1 this i j (by simpa using b) (by simpa using n) hi;apply u;simpa using r
 rw[he]at g;simp only[beq_iff_eq];omega
theorem qj7{v:Value}{e:MapEntry}(he:e.key=v):∀(es:List MapEntry)(i:Nat),zA v es i=none→zA v (es++[e]) i=some (i+es.length,e.val)
 |[],i,_=>by simp[zA,he]
 |x::es,i,h=>by
  simp only[zA]at h;split at h
  cases h;rename_i a
  simp only[jy,zA,if_neg a];rw[qj7 he es (i+1) h,jg];congr 2
  omega
theorem qop{v:Value}{e:MapEntry}(he:e.key=v):∀(es:List MapEntry)(i j:Nat)(u:Value),zA v es i=some (i+j,u)→zA v (es.set j e) i=some (i+j,e.val)
 |[],i,j,u,h=>by cases h
 |x::es,i,j,u,h=>by
  simp only[zA]at h;split at h
  rename_i a
  obtain⟨g,_⟩:=Prod.mk.inj (Option.some.inj h);obtain rfl:j=0:=by omega
  simp[zA,he];rename_i a
  cases j with
  |zero=>
   exfalso;have:∀(es:List MapEntry)(k:Nat)(p:Nat×Value),zA v es k=some p→k≤p.1:=by
    intro es;induction es with
    |nil=>intro k p h;cases h
    |cons y es b=>
     intro k p h;simp only[zA]at h;split at h
     cases h;exact jf _;have:=b _ _ h;omega
   have:=this es (i+1) _ h;simp only[vh]at this;omega
  |succ j=>
   simp only[jK,zA,if_neg a];rw[show i+(j+1)=(i+1)+j by omega]at h⊢;exact qop he es (i+1) j u h
section
variable{P:Program}{o:Oper}{ρ:Operand→Option D}{α:Type}[DecidableEq α]
theorem qtz{key:α→D}{p:Addr→Prop}{w:World}:∀(l:List (α×D))(es:List MapEntry)(j:Nat)(e:MapEntry),zU p w (yS key l) es→es[j]? =some e→∃q,l[j]? =some q∧Rep p w (key q.1) e.key
 |[],es,j,e,h,he=>by
  simp only[yS,jU,zU]at h;subst h;simp at he
 |q::l,es,j,e,h,he=>by
  simp only[yS,jm,zU]at h;obtain⟨u,rest,rfl,a,v,b⟩:=h;cases j with
  |zero=>
   simp only[JH,Option.some.injEq]at he;subst he;exact⟨q,rfl,a⟩
  |succ j=>
   obtain⟨g,n,r⟩:=qtz l rest j e b (by simpa using he);exact⟨g,by simpa using n,r⟩
theorem qrM:∀(l:List (α×D))(x:α)(d:D),(yz l x).isSome=true→(zaK l x d).length=l.length
 |[],x,d,h=>by cases h
 |q::l,x,d,h=>by
  simp only[yz]at h;simp only[zaK];split at h
  rename_i hq
  rw[if_pos hq];rfl;rename_i hq
  rw[if_neg hq,jg,qrM l x d h,jg]
theorem qva{t kt e:TypeId}{x y:Operand}{key:α→D}{vk:α→Value}{d:Value→Prop}{r:Nat}{l:List (α×D)}{a0:α}{z:D}{M:Value}{σ:St}(τ:St)(ho:o.op= .mapEntry t x y)(ht:P.underlying t=some (.map kt e))(hK:yO P kt key vk d)(hz:(P.info? e).map (·.zero)=some (some M))(S:∀p w,Rep p w z M)(hx:ρ x=some (.map r))(hy:ρ y=some (key a0))(hσ:σ.Perm (.map r (yS key l)::τ))(hl:l.length<9223372036854775807):
 zp P o ρ σ fun d' σ'=>∃es cl st,d'= .tup [(yz l a0).getD z,.stm st]∧σ'= .mapE r (yS key (zaK l a0 ((yz l a0).getD z))) es cl::τ∧zaM es st (vk a0):=fun K p a w hi h=>by
 have h1:=h x (by rw[ho];simp[Op.operands]) _ hx;have J:=h y (by rw[ho];simp[Op.operands]) _ hy;have V:=hK.rep _ _ _ _ J;have B:d (vk a0):=V▸hK.good _ _ _ _ J;simp only[Rep]at h1;obtain⟨i0,hi1,hi2⟩:=jC.1 hz;have W:=hi.perm hσ;obtain⟨es,clock,N,g2,g3,gn,gl⟩:=W.ok _ (je ..);have hc:=hK.check w false (vk a0) B;have fin:∀(A:Array MapEntry)(n:Nat),(A.toList.map (·.born)).Nodup→(∀e∈A.toList,e.born<n)→(∀(q:Addr→Prop)(u:World),zE p w q u→zU q u (yS key (zaK l a0 ((yz l a0).getD z))) A.toList)→
  Inv K p (.mapE r (yS key (zaK l a0 ((yz l a0).getD z))) A n::τ) {w with heap:=w.heap.setIfInBounds r (.map A n)}∧zE p w p {w with heap:=w.heap.setIfInBounds r (.map A n)}:=fun A n hn' hl' hr=>by
  have F:=MapKept.heap_set (o':=.map A n) N;have G:∀H,p H→({w with heap:=w.heap.setIfInBounds r (.map A n)}:World).cell? H=w.cell? H:=fun H L=>qdy (F.2 _ (by
   intro e;obtain⟨u,hu⟩:=hi.pub H L;unfold World.cell? at hu;rw[e,N]at hu;cases hu))
  have gr:zE p w p {w with heap:=w.heap.setIfInBounds r (.map A n)}:=fun H L=>⟨L,G H L⟩
  refine⟨W.write (b:=r) rfl rfl gr (fun H L=>.inl L) ⟨F.1,hr _ _ gr,?_,hn',hl'⟩ (fun H L=>?_) rfl rfl rfl og fun k hk=>F.2 k hk,gr⟩
  · have:=qqr l a0 ((yz l a0).getD z)
    simp only[jh];omega
  · obtain⟨u,hu⟩:=hi.pub H L
    exact⟨u,by rw[G H L];exact hu⟩
 rcases qia hK p w a0 ((yz l a0).getD z) l es.toList 0 g2 with⟨Y,O,q3⟩|⟨j,I,dv,Y,O,q3,q4,q5,q6⟩
 · have hf:=(hK.find w (vk a0) es.toList B (qeU hK g2)).trans (by rw[Y])
   have hr:(execOp a.eval o).run P w= .ok (.value (.tuple #[M,goInt clock])) {w with heap:=w.heap.setIfInBounds r (.map (es.push {key:=vk a0,val:=M,born:=clock}) (clock+1))}:=by
    unfold execOp;rw[ho];simp[h1,V,Instr.mapEntry,run_underlying ht,MapKept.run_getObj_map N,hc,hf,MapKept.run_setObj_map _ N,zeroValue,typeInfo,hi1,hi2]
   unfold Oper.wp;rw[hr];obtain⟨f1,f2⟩:=fin (es.push {key:=vk a0,val:=M,born:=clock}) (clock+1) (by
    rw[vW,jJ];refine jT.2 ⟨gn,by simp,fun x hx y hy hxy=>?_⟩;obtain⟨e,he,rfl⟩:=jt.1 hx;simp only[jm,jU,jr]at hy;have:=gl e he;omega) (by
    intro e he;rw[vW]at he;rcases jl.1 he with he|he
    have:=gl e he;omega;rw[jr.1 he];exact Nat.lt_succ_self _) fun q u g=>by
    rw[q3,vW,yS,jJ];refine qn4 (g2.grow g) ?_;simp only[jm,jU,zU];refine⟨_,[],rfl,V▸J.grow g,?_,rfl⟩;rw[O];exact S _ _
   refine⟨_,.tup [(yz l a0).getD z,.stm clock],_,p,rfl,⟨_,_,_,rfl,rfl,es.toList.length,_,by rw[vW,vP (jf _),Nat.sub_self];rfl,rfl,?_⟩,?_,f1,f2⟩
   · rw[vW]
     have:=qj7 (v:=vk a0) (e:={key:=vk a0,val:=M,born:=clock}) rfl es.toList 0 Y;rw[jc]at this;exact this
   · simp only[Rep,zB]
     refine⟨_,rfl,M,_,rfl,?_,goInt clock,[],rfl,rfl,rfl⟩;rw[O];exact S _ _
 · have hf:=(hK.find w (vk a0) es.toList B (qeU hK g2)).trans (by rw[Y])
   rw[jc]at hf;have h7:es[j]? =some I:=by simpa using O
   have hr:(execOp a.eval o).run P w= .ok (.value (.tuple #[I.val,goInt I.born])) {w with heap:=w.heap.setIfInBounds r (.map (es.modify j fun e=>{e with key:=vk a0}) clock)}:=by
    unfold execOp;rw[ho];have Z:(Instr.keyThatStays I.key (vk a0)).run P w= .ok (vk a0) w:=by
     rw[q3];exact hK.stays w _ B
    simp only[h1,V,Instr.mapEntry,Sem.run_bind,run_underlying ht,MapKept.run_getObj_map N,hc,hf,Result.andThen_ok,h7];simp[MapKept.run_setObj_map _ N,Z]
   unfold Oper.wp;rw[hr];have hj:=(jd.1 O).1;have hm:(es.modify j fun e=>{e with key:=vk a0}).toList=es.toList.set j {I with key:=vk a0}:=by
    apply List.ext_getElem?;intro k;rw[vc,JU,vA,vc];by_cases C:j=k;subst C;rw[if_pos rfl,if_pos rfl,if_pos hj,h7];rfl;rw[if_neg C,if_neg C]
   have hb:(es.toList.set j {I with key:=vk a0}).map (·.born)=es.toList.map (·.born):=by
    apply List.ext_getElem?;intro k;rw[vq,vA,vq];by_cases C:j=k;subst C;rw[if_pos rfl,if_pos hj,O];rfl;rw[if_neg C]
   obtain⟨f1,f2⟩:=fin (es.modify j fun e=>{e with key:=vk a0}) clock (by rw[hm,hb];exact gn) (by
    intro e he;have h5:e.born∈es.toList.map (·.born):=by rw[←hb,←hm];exact jM he
    obtain⟨e2,h6,h8⟩:=jt.1 h5;rw[←h8];exact gl e2 h6) fun q u g=>by
    rw[hm];refine q6 q u _ g ?_ ?_;exact V▸J.grow g;rw[q4];exact q5.grow g
   refine⟨_,.tup [(yz l a0).getD z,.stm I.born],_,p,rfl,⟨_,_,_,rfl,rfl,j,{I with key:=vk a0},by rw[hm,vA,if_pos rfl,if_pos hj],rfl,?_⟩,?_,f1,f2⟩
   · rw[hm]
     have:=qop (v:=vk a0) (e:={I with key:=vk a0}) rfl es.toList 0 j _ Y;rw[jc]at this;exact this
   · simp only[Rep,zB]
     refine⟨_,rfl,I.val,_,rfl,?_,goInt I.born,[],rfl,rfl,rfl⟩;rw[q4];exact q5.grow f2
theorem qrr{t:TypeId}{x s v:Operand}{kt:TypeId}{key:α→D}{vk:α→Value}{d:Value→Prop}{r cl:Nat}{es:Array MapEntry}{l:List (α×D)}{a0:α}{st:Int}{dn H:D}{σ:St}(τ:St)(I:o.op= .entryStore t x s v)(hK:yO P kt key vk d)(hx:ρ x=some (.map r))(hs:ρ s=some (.stm st))(hv:ρ v=some dn)(hw:Wk dn H)(O:zaM es st (vk a0))(hσ:σ.Perm (.mapE r (yS key l) es cl::τ)):
 zp P o ρ σ fun _ σ'=>σ'= .map r (yS key (zaK l a0 H))::τ:=fun K p a w hi h=>by
 have h1:=h x (by rw[I];simp[Op.operands]) _ hx;have h2:=h s (by rw[I];simp[Op.operands]) _ hs;have h3:=hw _ _ _ (h v (by rw[I];simp[Op.operands]) _ hv);simp only[Rep]at h1 h2;have C:=hi.perm hσ;obtain⟨J,g2,g3,gn,gl⟩:=C.ok _ (je ..);obtain⟨j,e,k1,L,M⟩:=quU gn O;have h7:es[j]? =some e:=by simpa using L
 have hj:=(jd.1 L).1;rcases qia hK p w a0 H l es.toList 0 g2 with⟨S,N,V⟩|⟨A,F,dv,S,N,V,q4,q5,q6⟩
 · rw[S]at M;cases M
 · rw[S,jc]at M
   obtain⟨rfl,_⟩:=Prod.mk.inj (Option.some.inj M);have W:F=e:=by rw[N]at L;exact Option.some.inj L
   subst W;have hr:(execOp a.eval o).run P w= .ok .skip {w with heap:=w.heap.setIfInBounds r (.map (es.modify A fun e=>{e with val:=a.eval v}) cl)}:=by
    unfold execOp;rw[I];simp[h1,h2,Instr.entryStore,MapKept.run_getObj_map J,asInt,asIntOf,k1,MapKept.run_setObj_map _ J]
   unfold Oper.wp;rw[hr];have hm:(es.modify A fun e=>{e with val:=a.eval v}).toList=es.toList.set A {F with val:=a.eval v}:=by
    apply List.ext_getElem?;intro k;rw[vc,JU,vA,vc];by_cases g:A=k;subst g;rw[if_pos rfl,if_pos rfl,if_pos hj,h7];rfl;rw[if_neg g,if_neg g]
   have hb:(es.toList.set A {F with val:=a.eval v}).map (·.born)=es.toList.map (·.born):=by
    apply List.ext_getElem?;intro k;rw[vq,vA,vq];by_cases g:A=k;subst g;rw[if_pos rfl,if_pos hj,N];rfl;rw[if_neg g]
   have n:=MapKept.heap_set (o':=.map (es.modify A fun e=>{e with val:=a.eval v}) cl) J;have q:∀z,p z→({w with heap:=w.heap.setIfInBounds r (.map (es.modify A fun e=>{e with val:=a.eval v}) cl)}:World).cell? z=w.cell? z:=fun z B=>qdy (n.2 _ (by
    intro e;obtain⟨u,hu⟩:=hi.pub z B;unfold World.cell? at hu;rw[e,J]at hu;cases hu))
   have gr:zE p w p {w with heap:=w.heap.setIfInBounds r (.map (es.modify A fun e=>{e with val:=a.eval v}) cl)}:=fun z B=>⟨B,q z B⟩
   obtain⟨qq,m1,Y⟩:=qtz l es.toList A F g2 N;have Z:qq.1=a0:=hK.inj _ _ ((hK.rep _ _ _ _ Y).symm.trans V);have G:Rep p w (key a0) (vk a0):=by
    rw[←Z,←hK.rep _ _ _ _ Y];exact Y
   refine⟨Go.undef,.undef,_,p,rfl,rfl,by simp only[Rep],C.write (b:=r) rfl rfl gr (fun z B=>.inl B) ⟨_,_,n.1,?_,?_,by rw[hm,hb];exact gn,?_⟩ (fun z B=>?_) rfl rfl rfl og fun k hk=>n.2 k hk,gr⟩
   · rw[hm]
     exact q6 p _ _ gr (by show Rep _ _ (key a0) F.key;rw[V];exact G.grow gr) (h3.grow gr)
   · have:=qrM l a0 H (by rw[q4];rfl)
     simp only[yS,jh]at g3⊢;omega
   · intro e he
     rw[hm]at he;have h5:e.born∈es.toList.map (·.born):=by rw[←hb];exact jM he
     obtain⟨e2,h6,h8⟩:=jt.1 h5;rw[←h8];exact gl e2 h6
   · obtain⟨u,hu⟩:=hi.pub z B
     exact⟨u,by rw[q z B];exact hu⟩
end
section
variable{P:Program}{o:Oper}{ρ:Operand→Option D}{d:D}
theorem qu8{t e:TypeId}{x y:Operand}{s by_ n m:Nat}{u:Value}{k:IntKind}{σ:St}(τ:St){l:List D}(q:o.op= .slice t x none (some y) none)(B:ElT P t e s by_)(C:ρ x=some (.vec u n))(hy:ρ y=some (.int k (m:Int)))(hm:m≤l.length)(Z:σ.Perm (.vec u l e s::τ)):
 zp P o ρ σ fun d' σ'=>∃r,d'= .vec r m∧σ'= .vec r (l.take m) e s::τ:=fun K p a w hi h=>by
 have F:=h x (by rw[q];simp[Op.operands]) _ C;have G:=h y (by rw[q];simp[Op.operands]) _ hy;simp only[Rep]at F G;have j:=hi.perm Z;obtain⟨H,V,⟨xs,⟨g3,g4⟩,W,g6⟩,g7⟩:=j.ok _ (je ..);obtain⟨i,z,A⟩:=jC.1 B.size;have keep:∀(r:Value),r.ownBlock=u.ownBlock→zbb p w (.vec r (l.take m) e s)→Inv K p (.vec r (l.take m) e s::τ) w:=fun r hb I=>by
  refine⟨fun o q=>?_,?_,fun b v=>?_,j.pub,j.gr,j.neu,j.os,j.tape,j.output,j.size,j.block⟩;rcases jx.1 q with rfl|q
  exact I;exact j.ok o (jp _ q);have:=j.nd;simp only[yl,vt,Ob.blk]at this⊢;rw[hb];exact this;refine j.mine b ?_;simp only[yl,vt,Ob.blk]at v⊢;rw[hb]at v;exact v
 rcases g4 with⟨J,L⟩|⟨g,cap,cur,hu,J,L,q3,Y,q5,q6⟩
 · subst J
   have M:l=[]:=jG L;subst M;have N:m=0:=by simpa using hm
   subst N;have hr:(execOp a.eval o).run P w= .ok (.value (.slice none 0 0)) w:=by
    have hb:(Instr.sliceBounds true 0 0 none (some (a.eval y)) none).run P w= .ok (0,0,0) w:=by
     simp[Instr.sliceBounds,G.1,Instr.sliceBound,asIntOf]
    unfold execOp;rw[q];simp[F.1,Instr.slice,Instr.sliceAt,run_underlying B.1,hb,sizeOf,typeInfo,z,A]
   unfold Oper.wp;rw[hr];exact⟨_,.vec (.slice none 0 0) 0,_,p,rfl,⟨_,rfl,rfl⟩,by simp only[Rep];exact⟨trivial,none,0,rfl,by omega,by omega⟩,keep _ rfl ⟨zx.nil s,V,⟨[],World.ownsRow_nil w 0 e s,zj.nil _ _,by simp⟩,fun g hg=>by simp[Value.ownBlock]at hg⟩,zE.refl _ _⟩
 · subst hu
   have O:cap≤9223372036854775807:=Y;have hr:(execOp a.eval o).run P w= .ok (.value (.slice (some ⟨g,0,none⟩) m cap)) w:=by
    have S:(m:Int)≤cap:=by omega
    have hb:(Instr.sliceBounds true l.length cap none (some (a.eval y)) none).run P w= .ok (0,m,cap) w:=by
     simp[Instr.sliceBounds,G.1,Instr.sliceBound,asIntOf,S];intro hh;omega
    unfold execOp;rw[q];simp[F.1,Instr.slice,Instr.sliceAt,run_underlying B.1,hb,sizeOf,typeInfo,z,A,zan]
   unfold Oper.wp;rw[hr];refine⟨_,.vec (.slice (some ⟨g,0,none⟩) m cap) m,_,p,rfl,⟨_,rfl,rfl⟩,by simp only[Rep];exact⟨trivial,_,_,rfl,by omega,O⟩,keep _ rfl ⟨H.take m,V,⟨xs.take (szs (l.take m)),⟨(W.take m).len.trans (H.take m).szs,.inr ⟨g,cap,cur,?_,J,L,?_,Y,q5,?_⟩⟩,W.take m,fun x C=>g6 x (j9 C)⟩,g7⟩,zE.refl _ _⟩
   · rw[jA,vu hm]
   · rw[jA,vu hm];omega
   · rw[jA,vu hm,(H.take m).szs,jA,vu hm,←q6,Jo,vu (jH s hm)]
theorem qBB{t e:TypeId}{x ix:Operand}{b i s off n es m:Nat}{path:List Nat}{k:IntKind}(g:o.op= .indexAddr t x ix)(r:ArrE P t e n es)(z:ρ x=some (.mref b i s off path))(j:ρ ix=some (.int k (m:Int)))(hm:m<n):zi P o ρ (.mref b i s (off+m*es) (path++[m])):=qM fun p a w h=>by
 have u:=h x (by rw[g];simp[Op.operands]) _ z;have v:=h ix (by rw[g];simp[Op.operands]) _ j;simp only[Rep]at u v;obtain⟨i0,hi,q⟩:=jC.1 r.size;refine⟨.pointer (some ⟨b,i*s+(off+m*es),none⟩),?_,by simp only[Rep]⟩;unfold execOp;rw[g];have hb:(0:Int)≤m∧(m:Int)<n:=by omega
 simp[u,v.1,Instr.indexAt,asIntOf,run_underlying r.und,Instr.sureAddr,hm,sizeOf,typeInfo,hi,q,zan,jS]
theorem qts{x:Operand}{b i s off:Nat}{path:List Nat}(g:o.op= .nilCheck x)(j:ρ x=some (.mref b i s off path)):zi P o ρ (.mref b i s off path):=qM fun p a w h=>by
 have e:=h x (by rw[g];simp[Op.operands]) _ j;refine⟨a.eval x,?_,e⟩;simp only[Rep]at e;unfold execOp;rw[g];simp[e]
theorem qCn{t e:TypeId}{x ix:Operand}{n es m:Nat}{k:IntKind}{A:List D}{d:D}(B:o.op= .indexAddr t x ix)(H:ArrE P t e n es)(L:ρ x=some (.ptr (.agg A)))(C:ρ ix=some (.int k (m:Int)))(hm:m<n)(hd:A[m]? =some d)(r:szs (A.take m)=m*es)(M:d.plain=true):zi P o ρ (.ptr d):=qM fun p a w h=>by
 have z:=h x (by rw[B];simp[Op.operands]) _ L;have I:=h ix (by rw[B];simp[Op.operands]) _ C;simp only[Rep]at z I;obtain⟨b,o',u,z,q,⟨cs,rfl,N,_⟩,W⟩:=z;obtain⟨v,J,g⟩:=N.at_cell hd;obtain⟨i0,hi,F⟩:=jC.1 H.size;refine⟨.pointer (some ⟨b,o'+m*es,none⟩),?_,?_⟩;unfold execOp;rw[B];have hb:(0:Int)≤m∧(m:Int)<n:=by omega
 simp[z,I.1,Instr.indexAt,asIntOf,run_underlying H.und,Instr.sureAddr,hm,sizeOf,typeInfo,hi,F,zan];simp only[Rep];rw[r]at g;refine⟨b,o'+m*es,v,rfl,?_,J,Rep.one J M⟩;rcases q with q|⟨Y,O,he,q⟩
 refine .inl (JP.2 fun y hy=>?_);obtain⟨j,G⟩:=List.mem_iff_getElem?.1 hy;have:=g j y G;simp[Value.cells]at q;rw[q]at this;simp at this;injection he with he;injection he with S V;subst S V
 refine .inr ⟨b,o'+m*es,rfl,fun j y G=>?_⟩;have:=q _ y (by simpa[Value.cells]using g j y G);rw[←jS]at this;exact this
theorem qtE{α:Type}{f:α→D}{σ:St}{t e:TypeId}{n s by_:Nat}{parts:Array (Nat×Operand)}(xs:List Operand)(l:List α)(Y:o.op= .buildSlice t n parts)(hE:ElT P t e s by_)(H:parts.toList=(xs.zipIdx 0).map fun x=>(x.2,x.1))(hn:n=xs.length)(O:0<n)(hsm:n*s≤16777216)(hO:yZ ρ xs (l.map f))(I:∀a,sz (f a)=s)(S:∀a,(f a).plain=true):
 zp P o ρ σ fun d' σ'=>∃u,d'= .vec u l.length∧σ'= .vec u (l.map f) e s::σ:=fun K p a w hi h=>by
 obtain⟨hu,⟨z,hz,hzs⟩,F⟩:=hE;have J:∀x∈xs,x∈o.op.operands:=fun x r=>by
  rw[Y];simp only[Op.operands,List.mem_toArray,H,jR,jt,Function.comp];obtain⟨i,hi⟩:=List.mem_iff_getElem?.1 r;exact⟨(x,i),by rw[List.mem_zipIdx_iff_getElem?];simpa using hi,rfl⟩
 have hr:=hO.rep (p:=p) (w:=w) (a:=a) fun x r=>h x (J x r);have A:zx s (l.map f):=zaQ I;have L:∀d∈l.map f,d.plain=true:=fun d hd=>by
  obtain⟨a,_,rfl⟩:=jt.1 hd;exact S a
 have hl:=hr.len;have q:l.length=n:=by rw[hn,←jh (f:=a.eval),hl,jh]
 obtain⟨i,V,W,b,hby⟩:=info_parts hz;have M:¬n*i.size=0:=by
  rw[b];have:=j6 O F;omega
 have hf:Instr.fill (fun j=>some (j*i.size,i.size)) ((Array.range (n*i.size)).map (z.cells[·%z.cells.size]!)) ((parts.map fun(j,x)=>(j,a.eval x)).toList)=some ((xs.map a.eval).flatMap fun v=>v.cells.toList).toArray:=by
  have e1:(parts.map fun(j,x)=>(j,a.eval x)).toList=((xs.map a.eval).zipIdx 0).map fun x=>(x.2,x.1):=by
   rw[Array.toList_map,H,List.zipIdx_map,jR,jR];rfl
  rw[e1,b];have:=qqu s (xs.map a.eval) 0 [] ((Array.range (n*s)).map (z.cells[·%z.cells.size]!)).toList (hr.szs A) og (by simp[hn]);have e3:((Array.range (n*s)).map (z.cells[·%z.cells.size]!)).toList.toArray=(Array.range (n*s)).map (z.cells[·%z.cells.size]!):=by rw[Array.toArray_toList]
  rw[jq,jq,e3]at this;exact this
 have N:(execOp a.eval o).run P w= .ok (.value (.slice (some ⟨w.heap.size,0,none⟩) n n)) (w.alloc (.cells ((xs.map a.eval).flatMap fun v=>v.cells.toList).toArray e)):=by
  unfold execOp;rw[Y];simp[run_buildSlice w t e n _ _ i z hu V W (by rw[b];omega) M hf]
 have G:=hr.reps;have hlen:((xs.map a.eval).flatMap fun v=>v.cells.toList).length=n*s:=by
  have:=G.len;rw[this,A.szs,jh,q]
 unfold Oper.wp;rw[N];have C:n≤9223372036854775807:=by
  have:n*1≤n*s:=JO n F;omega
 have B:∀x,p x→x.block≠w.heap.size:=fun x r e=>by
  obtain⟨v,hv⟩:=hi.pub x r;have:=qfs hv;omega
 refine⟨_,.vec (.slice (some ⟨w.heap.size,0,none⟩) n n) l.length,_,p,rfl,⟨_,rfl,rfl⟩,by simp only[Rep];exact⟨trivial,_,n,by rw[q],by omega,C⟩,(hi.alloc _).more (o:=.vec (.slice (some ⟨w.heap.size,0,none⟩) n n) (l.map f) e s) ⟨A,F,⟨_,⟨G.len.trans A.szs,.inr ⟨w.heap.size,n,_,by rw[jh,q],ju _,World.alloc_heap_new w _,by rw[jh,q];exact jf _,by unfold maxLen;exact C,by simpa using hlen,by rw[jh,q,←hlen];exact jF⟩⟩,G.grow (qaw hi.pub _),hr.ones L⟩,fun g Z x r=>by
  simp only[Value.ownBlock,Option.some.injEq]at Z;subst Z;exact B x r⟩ fun x r=>?_,qaw hi.pub _⟩
 simp only[Ob.blk,Value.ownBlock,Option.some.injEq]at r;subst r;exact⟨.inl hi.size,fun hh=>absurd (hi.lt hh) (JI _)⟩
end
class CvI(P:Program)(t t':TypeId)(k:outParam IntKind):Prop where
 h:∃d,P.underlying t=some d∧P.underlying t'=some (.int k)
def mkA{α:Type}(b:Nat)(n:Int)(z:α):Option (List α):=if 0≤n∧b*n.toNat≤281474976710656∧n.toNat≤9223372036854775807 then some (List.replicate n.toNat z)else none
theorem qyN{α:Type}{b:Nat}{n:Int}{z:α}{r:List α}(h:mkA b n z=some r):zad b n=some n.toNat∧r=List.replicate n.toNat z:=by
 unfold mkA at h;split at h
 rename_i a
 exact⟨by unfold zad;exact if_pos a,(Option.some.inj h).symm⟩;cases h
section
variable{fz:List Nat}{τb:Tb}{Q:Env→St→Prop}
variable{P:Program}{X:Env→D→St→Prop}{l:List Oper}{i:Nat}{c:Cls}{o:Oper}{t:Nat}{ty:TypeId}{d:D}{env:Env}{σ:St}{rest:List (Nat×Cls)}
theorem qDi{α β:Type}{f:α→D}{p e:TypeId}{s by_:Nat}{x y:Operand}{k u:IntKind}{j:Int}{z:α}{g:List α→Option β}{v:β}(w:c.isW=true)(hr:(mkA by_ j z).bind g=some v)(h:(ev env x,ev env y)=(some (.int k j),some (.int u j)))[A:ElI P p e s by_][hF:EF P e α f s]{q:D}[B:ZvI P e q](C:q=f z)(F:∀r b,mkA by_ j z=some r→g r=some v→Rn fz τb P Q X l rest ((t,.arr b s 0 r.length)::env) (.arr b (r.map f) e s::σ)):AtO fz τb P Q X l i c rest env σ (some t) ty (.makeSlice p x y):=by
 refine⟨?_⟩;intro o G H I J L;obtain⟨r,a,n⟩:=zV hr;simp only[Prod.mk.injEq]at h;obtain⟨M,N⟩:=qyN a;subst C;refine z_w w G H I (qw9 z J A.h B.h h.1 h.2 M) fun d' σ' e=>?_;obtain⟨b,rfl,rfl⟩:=e;have:=F r b a n;rw[N,vz]at this;exact this.h
theorem qBw{α β:Type}{f:α→D}{x ix:Operand}{a e:TypeId}{s by_ b n:Nat}{m:Int}{k:IntKind}{L:List α}{g:α→Option β}{v:β}{τ:St}(hr:(getI L m).bind g=some v)(h:(ev env x,ev env ix)=(some (.arr b s 0 n),some (.int k m)))[j:ElI P a e s by_][hF:EF P e α f s](B:σ.Perm ([.arr b (L.map f) e s]++τ))(hn:L.length=n)(p:∀q,getI L m=some q→g q=some v→Rn fz τb P Q X l rest ((t,.mref b m.toNat s 0 [])::env) σ):AtO fz τb P Q X l i c rest env σ (some t) ty (.indexAddr a x ix):=by
 refine⟨?_⟩;intro o r u w z A;obtain⟨q,hq,hr⟩:=zV hr;simp only[Prod.mk.injEq]at h;exact z_d r u w (qos L z j.h h.1 h.2 hq hn) (p q hq hr).h
theorem qAl{α:Type}{f:α→D}{x ix:Operand}{a e:TypeId}{s by_ b n:Nat}{m:Int}{k:IntKind}{L:List α}{q:α}{τ:St}(h:(ev env x,ev env ix)=(some (.arr b s 0 n),some (.int k m)))[g:ElI P a e s by_][hF:EF P e α f s](z:σ.Perm ([.arr b (L.map f) e s]++τ))(hq:getI L m=some q)(hn:L.length=n)(j:Rn fz τb P Q X l rest ((t,.mref b m.toNat s 0 [])::env) σ):AtO fz τb P Q X l i c rest env σ (some t) ty (.indexAddr a x ix):=by
 refine⟨?_⟩;intro o p r u v w;simp only[Prod.mk.injEq]at h;exact z_d p r u (qos L v g.h h.1 h.2 hq hn) j.h
theorem zbl{α:Type}{f:α→D}{L:List α}{m:Int}{q:α}(h:getI L m=some q):(L.map f)[m.toNat]? =some (f q):=by
 rw[vq,(qhL h).2];rfl
theorem qBq{α:Type}{f:α→D}{a e:TypeId}{x:Operand}{b s off n:Nat}{m:Int}{path:List Nat}{L:List α}{q:α}{τ:St}{g:Bool}(p:c.isR=true)(r:ev env x=some (.mref b m.toNat s off path))(u:σ.Perm ([.arr b (L.map f) e s]++τ))(hq:getI L m=some q)(h:(zai (f q) path,yT (f q) path)=(some d,off)){j:List (Nat×Bool×Nat)}{v:List (Nat×List Nat)}{tm:Nat}[w:Tabs P j v tm](z:yV j a=some (g,n))(A:d.isAgg=g)(hn:sz d=n)(B:Rn fz τb P Q X l rest ((t,d)::env) σ):AtO fz τb P Q X l i c rest env σ (some t) ty (.load a x):=by
 refine⟨?_⟩;intro o C F G H I;simp only[Prod.mk.injEq]at h;exact z_r p C F G (qAZ H r (u.mem_iff.2 (je ..)) (zbl hq) h.1 h.2 (by rw[A];exact w.ty z) hn) B.h
theorem qB2{α β:Type}{f:α→D}{C e:TypeId}{x y:Operand}{b s off n:Nat}{m:Int}{path:List Nat}{L:List α}{q u:α}{a F:D}{τ:St}{g:List α→Option β}{v:β}(H:c.isW=true)(hr:(zaP L m u).bind g=some v)(h:(ev env x,ev env y)=(some (.mref b m.toNat s off path),some F))(I:σ.Perm ([.arr b (L.map f) e s]++τ))(hq:getI L m=some q)(hs:(zai (f q) path,yT (f q) path)=(some a,off))(hw:Wk F d)(w:zaF (f q) path d=f u)[hF:EF P e α f s]{J:Bool}{G:List (Nat×Bool×Nat)}{M:List (Nat×List Nat)}{tm:Nat}[N:Tabs P G M tm](O:yV G C=some (J,n))(z:d.plain=true)(hn:sz d=n)(A:sz a=n)(S:∀r,zaP L m u=some r→g r=some v→Rn fz τb P Q X l rest env (.arr b (r.map f) e s::τ)):AtO fz τb P Q X l i c rest env σ none ty (.store C x y):=by
 refine⟨?_⟩;intro o V W Y Z hty;obtain⟨r,j,B⟩:=zV hr;simp only[Prod.mk.injEq]at h hs;refine zcl H V W Y (qx3 τ Z h.1 h.2 hw I (zbl hq) (hF.p q) hs.1 hs.2 (N.ty O) hn A z) fun _ σ' e=>?_;subst e;rw[w,←List.map_set,←(qnN j).2.2];exact(S r j B).h
theorem qCL{α β:Type}{f:α→D}{x ix:Operand}{a e:TypeId}{s by_ n:Nat}{u:Value}{m:Int}{k:IntKind}{L:List α}{g:α→Option β}{v:β}{τ:St}(b:c.isR=true)(hr:(getI L m).bind g=some v)(h:(ev env x,ev env ix)=(some (.vec u n),some (.int k m)))[j:ElI P a e s by_][hF:EF P e α f s](p:σ.Perm ([.vec u (L.map f) e s]++τ))(r:∀q,getI L m=some q→g q=some v→Rn fz τb P Q X l rest ((t,.mref (zaE u) m.toNat s 0 [])::env) σ):AtO fz τb P Q X l i c rest env σ (some t) ty (.indexAddr a x ix):=by
 refine⟨?_⟩;intro o w z A B C;obtain⟨q,hq,hr⟩:=zV hr;simp only[Prod.mk.injEq]at h;exact z_r b w z A (qpo L B j.h h.1 h.2 hq (p.mem_iff.2 (je ..))) (r q hq hr).h
theorem qAT{α:Type}{f:α→D}{x ix:Operand}{a e:TypeId}{s by_ n:Nat}{u:Value}{m:Int}{k:IntKind}{L:List α}{q:α}{τ:St}(b:c.isR=true)(h:(ev env x,ev env ix)=(some (.vec u n),some (.int k m)))[g:ElI P a e s by_][hF:EF P e α f s](j:σ.Perm ([.vec u (L.map f) e s]++τ))(hq:getI L m=some q)(p:Rn fz τb P Q X l rest ((t,.mref (zaE u) m.toNat s 0 [])::env) σ):AtO fz τb P Q X l i c rest env σ (some t) ty (.indexAddr a x ix):=by
 refine⟨?_⟩;intro o r v w z A;simp only[Prod.mk.injEq]at h;exact z_r b r v w (qpo L z g.h h.1 h.2 hq (j.mem_iff.2 (je ..))) p.h
theorem qC5{α:Type}{f:α→D}{a e:TypeId}{x:Operand}{s off n:Nat}{u:Value}{m:Int}{path:List Nat}{L:List α}{q:α}{τ:St}{b:Bool}(j:c.isR=true)(p:ev env x=some (.mref (zaE u) m.toNat s off path))(r:σ.Perm ([.vec u (L.map f) e s]++τ))(hq:getI L m=some q)(h:(zai (f q) path,yT (f q) path)=(some d,off)){g:List (Nat×Bool×Nat)}{v:List (Nat×List Nat)}{tm:Nat}[w:Tabs P g v tm](z:yV g a=some (b,n))(A:d.isAgg=b)(hn:sz d=n)(B:Rn fz τb P Q X l rest ((t,d)::env) σ):AtO fz τb P Q X l i c rest env σ (some t) ty (.load a x):=by
 refine⟨?_⟩;intro o C F G H I;simp only[Prod.mk.injEq]at h;exact z_r j C F G (qz4 H p (r.mem_iff.2 (je ..)) (zbl hq) h.1 h.2 (by rw[A];exact w.ty z) hn) B.h
theorem qDl{α β:Type}{f:α→D}{C e:TypeId}{x y:Operand}{s off n:Nat}{u:Value}{m:Int}{path:List Nat}{L:List α}{q j:α}{a F:D}{τ:St}{g:List α→Option β}{v:β}(H:c.isW=true)(hr:(zaP L m j).bind g=some v)(h:(ev env x,ev env y)=(some (.mref (zaE u) m.toNat s off path),some F))(I:σ.Perm ([.vec u (L.map f) e s]++τ))(hq:getI L m=some q)(hs:(zai (f q) path,yT (f q) path)=(some a,off))(hw:Wk F d)(w:zaF (f q) path d=f j)[hF:EF P e α f s]{J:Bool}{G:List (Nat×Bool×Nat)}{M:List (Nat×List Nat)}{tm:Nat}[N:Tabs P G M tm](O:yV G C=some (J,n))(z:d.plain=true)(hn:sz d=n)(A:sz a=n)(S:∀r,zaP L m j=some r→g r=some v→Rn fz τb P Q X l rest env (.vec u (r.map f) e s::τ)):AtO fz τb P Q X l i c rest env σ none ty (.store C x y):=by
 refine⟨?_⟩;intro o V W Y Z hty;obtain⟨r,b,B⟩:=zV hr;simp only[Prod.mk.injEq]at h hs;refine zcl H V W Y (qyA τ Z h.1 h.2 hw I (zbl hq) (hF.p q) hs.1 hs.2 (N.ty O) hn A z) fun _ σ' e=>?_;subst e;rw[w,←List.map_set,←(qnN b).2.2];exact(S r b B).h
theorem qCH{α β:Type}{f:α→D}{x y:Operand}{j e:TypeId}{s by_ n:Nat}{u:Value}{L m:List α}{q:D}{τ:St}{g:List α→Option β}{v:β}(w:c.isW=true)(hr:(appO by_ L m).bind g=some v)(h:(ev env x,ev env y)=(some (.vec u n),some q))[z:ElI P j e s by_][hF:EF P e α f s](hy:asL q=some (m.map f))(A:σ.Perm ([.vec u (L.map f) e s]++τ))(B:∀r b,appO by_ L m=some r→g r=some v→Rn fz τb P Q X l rest ((t,.vec b r.length)::env) (.vec b (r.map f) e s::τ)):AtO fz τb P Q X l i c rest env σ (some t) ty (.call {callee:=.builtin .append,args:=#[x,y],argTypes:=#[j,j]}):=by
 obtain⟨r,a,p⟩:=zV hr;refine⟨?_⟩;intro o C F G H I;simp only[Prod.mk.injEq]at h;refine z_w w C F G (qqj L m H z.h h.1 h.2 (asl hy) A hF.h a) fun d' σ' e=>?_;obtain⟨b,rfl,rfl⟩:=e;exact(B r b a p).h
theorem qDz{α β:Type}{f:α→D}{q e:TypeId}{x y:Operand}{s by_ n:Nat}{u:Value}{k:IntKind}{m:Int}{L:List α}{g:List α→Option β}{v:β}{τ:St}(z:c.isW=true)(hr:(subO L 0 m).bind g=some v)(h:(ev env x,ev env y)=(some (.vec u n),some (.int k m)))[A:ElI P q e s by_](B:σ.Perm ([.vec u (L.map f) e s]++τ))(C:∀r b,subO L 0 m=some r→g r=some v→Rn fz τb P Q X l rest ((t,.vec b r.length)::env) (.vec b (r.map f) e s::τ)):AtO fz τb P Q X l i c rest env σ (some t) ty (.slice q x none (some y) none):=by
 refine⟨?_⟩;intro o F G H I J;obtain⟨r,a,j⟩:=zV hr;simp only[Prod.mk.injEq]at h;obtain⟨N,O,S,M⟩:=qn9 a;have hm:m=((m.toNat:Nat):Int):=by omega
 refine z_w z F G H (qu8 (m:=m.toNat) τ I A.h h.1 (by rw[h.2,←hm]) (by rw[jh];omega) B) fun d' σ' e=>?_;obtain⟨b,rfl,rfl⟩:=e;have w:r=L.take m.toNat:=by rw[M];simp
 have p:r.length=m.toNat:=by rw[w,jA];omega
 rw[←p,←vZ,p,←w];have:=(C r b a j).h
 rwa [p]at this
def vecO{α:Type}(l:List α):Option (List α):=some l
theorem qBS{α β:Type}{g:List α→Option β}{v:β}{f:α→D}{j e:TypeId}{n s by_:Nat}{parts:Array (Nat×Operand)}{xs:List Operand}{L:List α}(O:τb.vw.any (jX t)=true)(r:c.isW=true)(hr:(vecO L).bind g=some v)(h:(zbz parts.toList 0,xs.length,evw env xs)=(some xs,n,some (L.map f)))(S:0<L.length)[w:ElI P j e s by_][hF:EF P e α f s](a:n*s≤16777216)(z:∀u,g L=some v→Rn fz τb P Q X l rest ((t,.vec u L.length)::env) (.vec u (L.map f) e s::σ)):AtO fz τb P Q X l i c rest env σ (some t) ty (.buildSlice j n parts):=by
 refine⟨?_⟩;intro o A B C F G;simp only[Prod.mk.injEq]at h;obtain⟨H,I,q⟩:=h;have J:=qpE _ _ q;have M:xs.length=L.length:=by
  have:∀(xs:List Operand)(ds:List D),evw env xs=some ds→xs.length=ds.length:=by
   intro xs;induction xs with
   |nil=>intro ds h;simp only[evw,Option.some.injEq]at h;subst h;rfl
   |cons x xs N=>
    intro ds h;simp only[evw]at h;split at h
    cases h;split at h
    cases h;rename_i b
    cases h;simp[N _ b]
  simpa using this _ _ q
 refine z_w r A B C (qtE xs L F w.h (qqV _ _ _ H) I.symm oa a J hF.h hF.p) fun d' σ' e=>?_;obtain⟨u,rfl,rfl⟩:=e;exact(z u (by simpa[vecO]using hr)).h
class AiI(P:Program)(t:TypeId)(n es:outParam Nat):Prop where
 h:∃e,ArrE P t e n es
class PrI(P:Program)(t:TypeId):Prop where
 h:∃e,PairT P t e
theorem qBu{b:TypeId}{x y:Operand}{m n:Int}(h:(ev env x,ev env y)=(some (.int .i64 m),some (.int .i64 n)))[a:PrI P b](g:Rn fz τb P Q X l rest ((t,.agg [.int .i64 m,.int .i64 n])::env) σ):AtO fz τb P Q X l i c rest env σ (some t) ty (.build b #[(0,x),(1,y)]):=by
 refine⟨?_⟩;intro o j p q r u;simp only[Prod.mk.injEq]at h;obtain⟨e,a⟩:=a.h;exact z_d j p q (qv4 r a h.1 h.2) g.h
theorem qBg{g:TypeId}{x y:Operand}{b i0 s off n es m:Nat}{path:List Nat}{k:IntKind}(h:(ev env x,ev env y)=(some (.mref b i0 s off path),some (.int k (m:Int))))[a:AiI P g n es](hm:m<n)(j:Rn fz τb P Q X l rest ((t,.mref b i0 s (off+m*es) (path++[m]))::env) σ):AtO fz τb P Q X l i c rest env σ (some t) ty (.indexAddr g x y):=by
 refine⟨?_⟩;intro o p q r u v;simp only[Prod.mk.injEq]at h;obtain⟨e,a⟩:=a.h;exact z_d p q r (qBB u a h.1 h.2 hm) j.h
class AtI(P:Program)(t:TypeId)(e:outParam TypeId)(n:outParam Nat):Prop where
 h:ArrT P t e n
 y:Ty P e false 1
theorem uBldA{a e:TypeId}{n:Nat}{parts:Array (Nat×Operand)}[AtI P a e n]:Gu (AtO fz τb P Q X l i c rest env σ (some t) ty (.build a parts)):=id
theorem qtD{b e:TypeId}{n:Nat}{parts:Array (Nat×Operand)}[g:AtI P b e n]{C:Prop}(a:List D)(hb:zcx env (List.replicate n (.lst [])) parts.toList True=some (a,C))(j:C)(hi:(parts.toList.all fun q=>decide (q.1<n))=true)(p:Rn fz τb P Q X l rest ((t,.agg a)::env) σ):AtO fz τb P Q X l i c rest env σ (some t) ty (.build b parts):=by
 refine⟨?_⟩;intro o r u v w x;obtain⟨_,B,z,A⟩:=qnG _ _ _ _ _ hb j;exact z_d r u v (qzg w g.h hi z A) p.h
theorem uIxA{x y:Operand}{a:TypeId}:Gu (AtO fz τb P Q X l i c rest env σ (some t) ty (.index a x y)):=id
theorem qC6{α β:Type}{f:α→D}{x y:Operand}{b e j:TypeId}{s by_ n:Nat}{k:IntKind}{m:Int}{L:List (List α)}{g:List α→Option β}{v:β}(hr:(getI L m).bind g=some v)(h:(ev env x,ev env y)=(some (.agg (L.map fun a=>.lst (a.map f))),some (.int k m)))[p:AtI P b e n][C:ElI P e j s by_][hF:EF P j α f s](hl:L.length=n)(r:∀q,getI L m=some q→g q=some v→Rn fz τb P Q X l rest ((t,.lst (q.map f))::env) σ):AtO fz τb P Q X l i c rest env σ (some t) ty (.index b x y):=by
 refine⟨?_⟩;intro o u w z A B;simp only[Prod.mk.injEq]at h;cases hq:getI L m with
 |none=>rw[hq]at hr;cases hr
 |some q=>
  rw[hq]at hr;exact z_d u w z (qy2 L A p.h p.y h.1 hl h.2 hq) (r q hq hr).h
theorem qzm{j:TypeId}{x y:Operand}{n es m:Nat}{k:IntKind}{b:List D}{d:D}(h:(ev env x,ev env y,b[m]?)=(some (.ptr (.agg b)),some (.int k (m:Int)),some d))[g:AiI P j n es](hm:m<n)(a:szs (b.take m)=m*es)(p:d.plain=true)(q:Rn fz τb P Q X l rest ((t,.ptr d)::env) σ):AtO fz τb P Q X l i c rest env σ (some t) ty (.indexAddr j x y):=by
 refine⟨?_⟩;intro o r u v w z;simp only[Prod.mk.injEq]at h;obtain⟨e,g⟩:=g.h;exact z_d r u v (qCn w g h.1 h.2.1 hm h.2.2 a p) q.h
theorem qsl{α:Type}{L r:List α}{m:Int}{q:α}(h:zaP L m q=some r):getI r m=some q:=by
 unfold zaP at h;split at h
 rename_i a
 obtain rfl:=Option.some.inj h;unfold getI;rw[if_pos (by simpa using a.1)];simp[a.2];cases h
def zbg(q:Int×Int):D:=.agg [.int .u8 q.1,.int .u8 q.2]
theorem uSl3{x y z:Operand}{a:TypeId}:Gu (AtO fz τb P Q X l i c rest env σ (some t) ty (.slice a x none (some y) (some z))):=id
theorem qBo{α β:Type}{f:α→D}{j e:TypeId}{x y z:Operand}{s by_:Nat}{n:D}{L:List α}{k p:IntKind}{hi:Int}{g:List α→Option β}{v:β}(hr:(subO L 0 hi).bind g=some v)(h:(ev env x,asL n,ev env y,ev env z)=(some n,some (L.map f),some (.int k hi),some (.int p hi)))[q:ElI P j e s by_][hF:EF P e α f s](u:∀r,subO L 0 hi=some r→g r=some v→Rn fz τb P Q X l rest ((t,.full (r.map f))::env) σ):AtO fz τb P Q X l i c rest env σ (some t) ty (.slice j x none (some y) (some z)):=by
 obtain⟨r,a,b⟩:=zV hr;refine⟨?_⟩;intro o w A B C F;simp only[Prod.mk.injEq]at h;obtain⟨G,H,I,J⟩:=h;exact z_d w A B (qBM L C q.h G (asl H) I J hF.h a) (u r a b).h
theorem uCnv{t1 t2:TypeId}{x:Operand}:Gu (AtO fz τb P Q X l i c rest env σ (some t) ty (.convert t1 t2 x)):=id
theorem qCR{t1 t2:TypeId}{x:Operand}{k a:IntKind}{n:Int}(h:ev env x=some (.int a n))[b:CvI P t1 t2 k](e:Rn fz τb P Q X l rest ((t,.int k (k.wrap n))::env) σ):AtO fz τb P Q X l i c rest env σ (some t) ty (.convert t1 t2 x):=by
 refine⟨?_⟩;intro o g j p q r;have u:=h;obtain⟨d,v,w⟩:=b.h;exact z_d g j p (qwy q v w u) e.h
theorem qDv{s:TypeId}{x:Operand}{f off b i0 e g:Nat}{path:List Nat}(h:ev env x=some (.mref b i0 e g path)){p:List (Nat×Bool×Nat)}{n:List (Nat×List Nat)}{tm:Nat}[q:Tabs P p n tm]{a:List Nat}(r:yV n s=some a)(j:a[f]? =some off)(u:Rn fz τb P Q X l rest ((t,.mref b i0 e (g+off) (path++[f]))::env) σ):AtO fz τb P Q X l i c rest env σ (some t) ty (.fieldAddr s x f):=by
 refine⟨?_⟩;intro o v w z A B;have C:=h;exact z_d v w z (qza A (q.fld r j) C) u.h
theorem qsf{m n:Int}(h:IntKind.i64.wrap m=m):IntKind.i64.wrap (Int.tmod m n)=Int.tmod m n:=by
 have g:=qfu h;have j:(Int.tmod m n).natAbs≤m.natAbs:=by rw[Int.natAbs_tmod];exact Nat.mod_le _ _
 have b:0≤m→0≤Int.tmod m n:=fun a=>Int.tmod_nonneg n a;have e:m<0→Int.tmod m n≤0:=fun a=>by
  have:=Int.tmod_nonneg n (show 0≤-m by omega);rw[Int.neg_tmod]at this;omega
 refine wrap64 ?_;by_cases a:0≤m;have:=b a;omega;have:=e oa;omega
theorem qCq{P:Program}{o:Oper}{ρ:Operand→Option D}{t j:TypeId}{x y:Operand}{m n:Int}(b:o.op= .binOp .rem t x y j)(q:ρ x=some (.int .i64 m))(hy:ρ y=some (.int .i64 n))(hn:n≠0):zi P o ρ (.int .i64 (Int.tmod m n)):=qM fun p a w h=>by
 have e:=h x (by rw[b];simp[Op.operands]) _ q;have g:=h y (by rw[b];simp[Op.operands]) _ hy;simp only[Rep]at e g;refine⟨.int .i64 (Int.tmod m n),?_,by simp only[Rep];exact⟨trivial,qsf e.2⟩⟩;unfold execOp;rw[b];simp only[e.1,g.1];simp[binOp,eqGuard,Op.intDiv,hn]
theorem qCG{P:Program}{o:Oper}{ρ:Operand→Option D}{t j:TypeId}{x y:Operand}{m n:Int}(b:o.op= .binOp .rem t x y j)(q:ρ x=some (.int .i64 m))(hy:ρ y=some (.int .i64 n))(hn:n≠0):zi P o ρ (.int .i64 (wr (Int.tmod m n))):=qM fun p a w h=>by
 have e:=h x (by rw[b];simp[Op.operands]) _ q;have g:=h y (by rw[b];simp[Op.operands]) _ hy;simp only[Rep]at e g;refine⟨.int .i64 (wr (Int.tmod m n)),?_,by simp only[Rep];exact⟨trivial,qly _ _⟩⟩;unfold execOp;rw[b];simp only[e.1,g.1];simp[binOp,eqGuard,Op.intDiv,hn,wr,qsf e.2]
theorem qBT{op:BinOp}{a t2:TypeId}{x y:Operand}{m n:Int}(h:(ev env x,ev env y,op)=(some (.int .i64 m),some (.int .i64 n),.rem))(hn:n≠0)(b:Rn fz τb P Q X l rest ((t,.int .i64 (wr (Int.tmod m n)))::env) σ):AtO fz τb P Q X l i c rest env σ (some t) ty (.binOp op a x y t2):=by
 refine⟨?_⟩;intro o e g j p q;simp only[Prod.mk.injEq]at h;obtain⟨r,u,rfl⟩:=h;exact z_d e g j (qCG p r u hn) b.h
theorem ofA{d:D}{path:List Nat}{off:Nat}(h:yT d path=off:=by first|exact rfl|(simp[yT,szs,sz,qkK,qfc];done)):yT d path=off:=h
theorem qDJ{a:TypeId}{x:Operand}{b off n:Nat}{path:List Nat}{d0:D}{e:Bool}(j:c.isR=true)(p:ev env x=some (.ref b off path))(hm: .cell b d0∈σ)(h:zai d0 path=some d)(q:yT d0 path=off){g:List (Nat×Bool×Nat)}{r:List (Nat×List Nat)}{tm:Nat}[z:Tabs P g r tm](u:yV g a=some (e,n))(v:d.isAgg=e)(hn:sz d=n)(w:Rn fz τb P Q X l rest ((t,d)::env) σ):AtO fz τb P Q X l i c rest env σ (some t) ty (.load a x):=z_ld j p hm (by rw[h,q]) u v hn w
theorem qCc{q:TypeId}{x y:Operand}{b off n:Nat}{path:List Nat}{d0 a e:D}{τ:St}(d':List D)(u:c.isW=true)(h:(ev env x,ev env y)=(some (.ref b off path),some e))(v:σ.Perm ([.cell b d0]++τ))(hs:zai d0 path=some a)(w:yT d0 path=off)(hw:Wk e d){z:Bool}{r:List (Nat×Bool×Nat)}{A:List (Nat×List Nat)}{tm:Nat}[F:Tabs P r A tm](B:yV r q=some (z,n))(g:d.plain=true)(hn:sz d=n)(j:sz a=n)(p:zaF d0 path d= .agg d')(C:Rn fz τb P Q X l rest env (.cell b (.agg d')::τ)):AtO fz τb P Q X l i c rest env σ none ty (.store q x y):=zb5 d' u h v (by rw[hs,w]) hw B g hn j p C
theorem qyq{e:TypeId}{zs:List D}(a:c.isW=true)(h:τb.ow.any (jX t)=true)[g:BtI P e zs](j:∀b,Rn fz τb P Q X l rest ((t,.ref b 0 [])::env) (.cell b (.agg zs)::σ)):AtO fz τb P Q X l i c rest env σ (some t) ty (.alloc e):=by
 refine⟨?_⟩;intro o n p q r u;refine z_w a n p q (qd2 r (yv.agg g.h)) fun d' σ' e=>?_;obtain⟨b,rfl,rfl⟩:=e;exact(j b).h
def zcA:List D→Bool→Option (List D)
 |[],true=>some []
 |[],false=>none
 |d::ds,b=>match d with
  |.own _ l=>match zcA ds true with
   |some es=>some (.lst l::es)
   |none=>none
  |.full l=>match zcA ds true with
   |some es=>some (.lst l::es)
   |none=>none
  |d=>match zcA ds b with
   |some es=>some (d::es)
   |none=>none
theorem qmX:∀(ds:List D)(b:Bool)(es:List D),zcA ds b=some es→Wks ds es
 |[],true,es,h=>by
  simp only[zcA,Option.some.injEq]at h;subst h;exact .nil
 |[],false,es,h=>by cases h
 |d::ds,b,es,h=>by
  unfold zcA at h;split at h
  split at h
  rename_i a he
  cases h;exact .cons (Wk.own _ _) (qmX ds true a he);cases h;split at h
  rename_i a he
  cases h;exact .cons (Wk.full _) (qmX ds true a he);cases h;split at h
  rename_i a he
  cases h;exact .cons (Wk.refl _) (qmX ds b a he);cases h
theorem qCa{b e:TypeId}{n s by_:Nat}{parts:Array (Nat×Operand)}{y:Operand}{ds es:List D}(h:(parts,n,ev env y)=(#[(0,y)],1,some (.agg ds)))(hw:zcA ds false=some es)[g:ElI P b e s by_](j:zx s [.agg es])(p:[D.agg es].all D.plain=true)(a:1*s≤16777216)(q:Rn fz τb P Q X l rest ((t,.full [.agg es])::env) σ):AtO fz τb P Q X l i c rest env σ (some t) ty (.buildSlice b n parts):=by
 refine⟨?_⟩;intro o r u v w x;simp only[Prod.mk.injEq]at h;obtain⟨rfl,rfl,z⟩:=h;exact z_d r u v (qAH [y] w g.h rfl rfl od a (.cons z (Wk.agg (qmX _ _ _ hw)) .nil) j (zci p)) q.h
theorem qDw{x:Operand}{b i0 s off:Nat}{path:List Nat}(h:ev env x=some (.mref b i0 s off path))(a:Rn fz τb P Q X l rest ((t,.mref b i0 s off path)::env) σ):AtO fz τb P Q X l i c rest env σ (some t) ty (.nilCheck x):=by
 refine⟨?_⟩;intro o e g j n p;exact z_d e g j (qts n h) a.h
theorem qCm{x:Operand}{a e:TypeId}{s by_ n:Nat}{u:Value}(h:ev env x=some (.vec u n))[b:ElI P a e s by_](g:Rn fz τb P Q X l rest ((t,.int .i64 (n:Int))::env) σ):AtO fz τb P Q X l i c rest env σ (some t) ty (.call {callee:=.builtin .len,args:=#[x],argTypes:=#[a]}):=by
 refine⟨?_⟩;intro o j p q r v;exact z_d j p q (qnw r b.h.1 h) g.h
theorem qBL{x:Operand}{a e:TypeId}{s g by_ n b lo:Nat}(h:ev env x=some (.arr b g lo n))[j:ElI P a e s by_](p:Rn fz τb P Q X l rest ((t,.int .i64 (n:Int))::env) σ):AtO fz τb P Q X l i c rest env σ (some t) ty (.call {callee:=.builtin .len,args:=#[x],argTypes:=#[a]}):=by
 refine⟨?_⟩;intro o q r u v w;exact z_d q r u (qBO v j.h.1 h) p.h
end
class MpI(P:Program)(t:TypeId)(α β:outParam Type)(key:outParam (α→D))(g:outParam (β→D))(z:outParam β):Prop where
 h:∃kt e vk d,P.underlying t=some (.map kt e)∧yO P kt key vk d∧zbi P e (g z)
section
variable{fz:List Nat}{τb:Tb}{Q:Env→St→Prop}
variable{P:Program}{X:Env→D→St→Prop}{l:List Oper}{i:Nat}{c:Cls}{o:Oper}{t:Nat}{ty:TypeId}{d:D}{env:Env}{σ:St}{rest:List (Nat×Cls)}
variable{α β:Type}{key:α→D}{g:β→D}{z:β}{te:TypeId}{x y v:Operand}{r:Nat}{τ:St}
theorem qDp[w:MpI P te α β key g z](a:c.isW=true)(b:∀r,Rn fz τb P Q X l rest ((t,.map r)::env) (.map r (zb key g ([]:List (α×β)))::σ)):AtO fz τb P Q X l i c rest env σ (some t) ty (.makeMap te none):=by
 refine⟨?_⟩;intro o j n p q u;refine z_w a j n p (qwM (α:=α) (β:=β) (key:=key) (g:=g) q) fun d' σ' e=>?_;obtain⟨r,rfl,rfl⟩:=e;exact(b r).h
theorem qBE{k:IntKind}{n:Int}[a:MpI P te α β key g z](b:c.isW=true)(j:ev env x=some (.int k n))(p:∀r,Rn fz τb P Q X l rest ((t,.map r)::env) (.map r (zb key g ([]:List (α×β)))::σ)):AtO fz τb P Q X l i c rest env σ (some t) ty (.makeMap te (some x)):=by
 refine⟨?_⟩;intro o q u w A B;obtain⟨kt,e,vk,F,C,G,H⟩:=a.h;refine z_w b q u w (qpk (α:=α) (β:=β) (key:=key) (g:=g) A C j) fun d' σ' e=>?_;obtain⟨r,rfl,rfl⟩:=e;exact(p r).h
variable[DecidableEq α]{L:List (α×β)}{a0:α}{b0:β}
theorem qDN[a:MpI P te α β key g z](b:c.isR=true)(h:(ev env x,ev env y)=(some (.map r),some (key a0)))(j:σ.Perm ([.map r (zb key g L)]++τ))(n:Rn fz τb P Q X l rest ((t,.tup [g ((zk L a0).getD z),.bool (zk L a0).isSome])::env) σ):AtO fz τb P Q X l i c rest env σ (some t) ty (.lookup te x y true):=by
 refine⟨?_⟩;intro o p q u w A;obtain⟨kt,e,vk,G,B,C,F⟩:=a.h;simp only[Prod.mk.injEq]at h;exact z_r b p q u (qvH L a0 z w B C F h.1 h.2 (j.mem_iff.2 (je ..))) n.h
theorem qDg[a:MpI P te α β key g z](b:c.isR=true)(h:(ev env x,ev env y)=(some (.map r),some (key a0)))(j:σ.Perm ([.map r (zb key g L)]++τ))(n:Rn fz τb P Q X l rest ((t,g ((zk L a0).getD z))::env) σ):AtO fz τb P Q X l i c rest env σ (some t) ty (.lookup te x y false):=by
 refine⟨?_⟩;intro o p q u w A;obtain⟨kt,e,vk,G,B,C,F⟩:=a.h;simp only[Prod.mk.injEq]at h;exact z_r b p q u (qvB L a0 z w B C F h.1 h.2 (j.mem_iff.2 (je ..))) n.h
theorem qCX{ρ:Type}{G:List (α×β)→Option ρ}{res:ρ}{n:D}[p:MpI P te α β key g z](q:c.isW=true)(hr:(mputO L a0 b0).bind G=some res)(h:(ev env x,ev env y,ev env v)=(some (.map r),some (key a0),some n))(hw:Wk n (g b0))(u:σ.Perm ([.map r (zb key g L)]++τ))(w:∀a,mputO L a0 b0=some a→G a=some res→Rn fz τb P Q X l rest env (.map r (zb key g a)::τ)):AtO fz τb P Q X l i c rest env σ none ty (.mapUpdate te x y v):=by
 refine⟨?_⟩;intro o A B C F H;obtain⟨kt,e,vk,M,I,J,N⟩:=p.h;obtain⟨a,b,j⟩:=zV hr;simp only[Prod.mk.injEq]at h;refine zcl q A B C (qnq L a0 b0 F I J h.1 h.2.1 h.2.2 hw u b) fun _ σ' e=>?_;subst e;exact(w a b j).h
def StM(P:Program)(key:α→D)(a0:α)(es:Array MapEntry)(st:Int):Prop:=∃kt vk d,yO P kt key vk d∧zaM es st (vk a0)
theorem qCT{ρ:Type}{G:List (α×β)→Option ρ}{res:ρ}[w:MpI P te α β key g z](A:c.isW=true)(hr:(mputO L a0 ((zk L a0).getD z)).bind G=some res)(h:(ev env x,ev env y)=(some (.map r),some (key a0)))(p:σ.Perm ([.map r (zb key g L)]++τ))(B:∀b es cl st,mputO L a0 ((zk L a0).getD z)=some b→G b=some res→StM P key a0 es st→Rn fz τb P Q X l rest ((t,.tup [g ((zk L a0).getD z),.stm st])::env) (.mapE r (zb key g b) es cl::τ)):AtO fz τb P Q X l i c rest env σ (some t) ty (.mapEntry te x y):=by
 refine⟨?_⟩;intro o C F H I J;obtain⟨kt,e,vk,M,N,u,Y,O,S⟩:=w.h;obtain⟨b,a,j⟩:=zV hr;obtain⟨hl,rfl⟩:=ql1 a;simp only[Prod.mk.injEq]at h;rw[qhG]at p;refine z_w A C F H (qva τ I N u O S h.1 h.2 p (by rw[jh];exact hl)) fun d' σ' V=>?_;obtain⟨es,cl,st,rfl,rfl,n⟩:=V;have W:(yz (L.map fun q=>(q.1,g q.2)) a0).getD (g z)=g ((zk L a0).getD z):=by
  rw[qla];cases zk L a0<;>rfl
 rw[W,qm9,←qhG];exact(B _ es cl st a j ⟨kt,vk,M,u,n⟩).h
theorem qDP{ρ:Type}{G:List (α×β)→Option ρ}{res:ρ}{p:D}{s:Operand}{st:Int}{es:Array MapEntry}{cl:Nat}[J:MpI P te α β key g z](u:c.isW=true)(hr:(mputO L a0 b0).bind G=some res)(h:(ev env x,ev env s,ev env v)=(some (.map r),some (.stm st),some p))(hw:Wk p (g b0))(q:σ.Perm ([.mapE r (zb key g L) es cl]++τ))(j:StM P key a0 es st)(w:∀b,mputO L a0 b0=some b→G b=some res→Rn fz τb P Q X l rest env (.map r (zb key g b)::τ)):AtO fz τb P Q X l i c rest env σ none ty (.entryStore te x s v):=by
 refine⟨?_⟩;intro o A B C F H;obtain⟨kt,vk,M,I,hs⟩:=j;obtain⟨b,a,n⟩:=zV hr;obtain⟨hl,rfl⟩:=ql1 a;simp only[Prod.mk.injEq]at h;rw[qhG]at q;refine zcl u A B C (qrr τ F I h.1 h.2.1 h.2.2 hw hs q) fun _ σ' e=>?_;subst e;rw[qm9,←qhG];exact(w _ a n).h
end
structure SpD(α:Type) where
 ds:List D
 s1:St
 R:α→D→St→Prop
class Co(P:Program){α:Type}{ν:outParam Type}(f:FuncId)(q:Option α)(F:outParam (ν→SpD α)):Prop where
 h:∀b r,q=some r→Spec P f (F b).ds (F b).s1 ((F b).R r)
section
variable{T:Tb}{m:Md}{P:Program}{f:FuncId}{fn:Func}{K:Ctx}{R:D→St→Prop}{k:List Item}{env:Env}{σ:St}{l:List Oper}
structure PW(T:Tb)(P:Program)(l:List Oper)(J:Env→St→Prop)(pl:Pl)(b:Bool)(env:Env)(σ:St):Prop where
 h:zaG P l.toArray J pl b env σ
structure PB(n:Nat)(T:Tb)(P:Program)(l:List Oper)(J:Env→St→Prop)(pl:Pl)(pre:List (Nat×Cls))(env:Env)(σ:St):Prop where
 h:Rn [] T P (zaG P l.toArray J pl true) NX l pre env σ
theorem pbS{n:Nat}{T:Tb}{P:Program}{l:List Oper}{J:Env→St→Prop}{pl:Pl}{pre:List (Nat×Cls)}{env:Env}{σ:St}(h:PB (n+1) T P l J pl pre env σ):PB n T P l J pl pre env σ:=⟨h.h⟩
structure PJ{ν:Type}(V:ν→Env×St)(env:Env)(σ:St):Prop where
 h:∃nm,Sub (V nm).1 env∧σ.Perm (V nm).2
theorem qCp{β ν ρ:Type}{q:Option β}{g:β→Option ρ}{v:ρ}{id:Nat}{ks:List Nat}{os:Env→St→List D}{pre:List (Nat×Nat)}{pl:Pl}{sh:β→ν→Env→St→Env×St}{E:Env}{U:St}(hj:fndP T.pl id=some ⟨β,ν,ks,os,pre,pl,sh⟩)(hr:q.bind g=some v)(hE:zak env ks=some E)(hp:Rem (os env σ) σ U)
 (h1:∀r,q=some r→PB 0 T P l (PJ fun nm=>((sh r nm env σ).1++E,(sh r nm env σ).2++U)) pl (pre.map fun x=>(x.1,dgc x.2)) env σ)
 (h2:∀r nm,q=some r→g r=some v→za8 ((yV T.fz id).getD []) T m P f fn K R k ((sh r nm env σ).1++E) ((sh r nm env σ).2++U))
 (hm:P.follows .mixedOrders=true:=by kernel_rfl) (hok:yw l.toArray fn.ntmps=true:=by kernel_rfl) (hA:zbs l.toArray (pre.map fun x=>(x.1,dgc x.2)) pl=true:=by kernel_rfl):zh T m P f fn K R (.code (.region id l.toArray true)::k) env σ:=by
 obtain⟨r,hq,hg⟩:=zV hr;refine⟨qt9 hm hok _ pl hA (PJ fun nm=>((sh r nm env σ).1++E,(sh r nm env σ).2++U)) (h1 r hq).h.h fun e s hJ=>?_⟩;obtain⟨nm,hs,hp⟩:=hJ.h;exact qcS _ hs (qjd _ [] (by simpa using hp) (h2 r nm hq hg).h)
theorem pbeg{n:Nat}{J:Env→St→Prop}{pl:Pl}{pre a:List (Nat×Cls)}(e:pre=a)(h:Rn [] T P (zaG P l.toArray J pl true) NX l a env σ):PB n T P l J pl pre env σ:=⟨e▸h⟩
theorem qCe{J:Env→St→Prop}{pl:Pl}{b:Bool}{X:Env→D→St→Prop}(h:PW T P l J pl b env σ):Rn [] T P (zaG P l.toArray J pl b) X l [] env σ:=⟨h.h⟩
theorem qDA{J:Env→St→Prop}{i:Nat}{D:List (Nat×Cls)}{a e:Pl}{b:Bool}(h:Rn [] T P (zaG P l.toArray J a true) NX l ((i,.w)::D) env σ)(j:PW T P l J e false env σ):PW T P l J (.cons i D a e) b env σ:=⟨qiL h.h j.h⟩
theorem w_no{J:Env→St→Prop}:PW T P l J .nil false env σ:=⟨zba⟩
theorem qy8{ν:Type}{V:ν→Env×St}(nm:ν){E:Env}{S:St}(h:V nm=(E,S))(hs:Sub E env)(a:σ.Perm S):PW T P l (PJ V) .nil true env σ:=⟨qte ⟨nm,by rw[h];exact⟨hs,a⟩⟩⟩
end
section
variable{fz:List Nat}{τb:Tb}{Q:Env→St→Prop}
variable{P:Program}{X:Env→D→St→Prop}{l:List Oper}{i:Nat}{c:Cls}{o:Oper}{t:Nat}{ty:TypeId}{d:D}{env:Env}{σ:St}{rest:List (Nat×Cls)}
theorem bindI{α:Type}{q:Option α}{r:α}(h:q=some r):(q.bind fun _=>some ())=some ():=by rw[h];rfl
theorem qBi{α:Type}{f:α→D}{x y:Operand}{te e:TypeId}{s by_ n:Nat}{u:Value}{L M r:List α}{b j:D}{τ:St}(hq:appO by_ L M=some r)(p:c.isW=true)(h:(ev env x,ev env y)=(some b,some j))[C:ElI P te e s by_][hF:EF P e α f s](q:b= .own u (L.map f))(hy:asL j=some (M.map f))(w:σ.Perm ([.row u n e s]++τ))(hn:n=L.length)(A:∀a,Rn fz τb P Q X l rest ((t,.own a (r.map f))::env) (.row a r.length e s::τ)):AtO fz τb P Q X l i c rest env σ (some t) ty (.call {callee:=.builtin .append,args:=#[x,y],argTypes:=#[te,te]}):=
 qB9 p (bindI hq) h q hy w hn fun F a B _=>by obtain rfl:=Option.some.inj (hq.symm.trans B);exact A a
theorem qyI{α:Type}{q:Option α}{r:α}{f:FuncId}{args:Array Operand}{a:Array TypeId}{ds:List D}{b:α→D}(hq:q=some r)[n:CaI P f][p:Cb P f q ds b](e:yZ (ev env) args.toList ds)(h:Rn fz τb P Q X l rest ((t,b r)::env) σ):AtO fz τb P Q X l i c rest env σ (some t) ty (.call {callee:=.value (.func f),args:=args,argTypes:=a}):=
 z_cc (bindI hq) e fun u j _=>by obtain rfl:=Option.some.inj (hq.symm.trans j);exact h
end
class Cx(P:Program){α:Type}(f:FuncId)(c:Option (Int⊕α))(ds:outParam (List D))(en:outParam (α→D))(F:outParam (Int→D)):Prop where
 h:∀r,c=some r→yX P f ds [] (fun d _=>∃a,r= .inr a∧d=en a) fun d=>∃k,r= .inl k∧d=F k
structure SpX(α:Type) where
 ds:List D
 s1:St
 R:α→D→St→Prop
 F:Int→D
class Cox(P:Program){α:Type}{ν:outParam Type}(f:FuncId)(q:Option (Int⊕α))(F:outParam (ν→SpX α)):Prop where
 h:∀b r,q=some r→yX P f (F b).ds (F b).s1 (fun d s=>∃a,r= .inr a∧(F b).R a d s) fun d=>∃k,r= .inl k∧d=(F b).F k
section
variable{fz:List Nat}{τb:Tb}{K:Ctx}{Q:Env→St→Prop}
variable{P:Program}{X:Env→D→St→Prop}{l:List Oper}{i:Nat}{c:Cls}{o:Oper}{t:Nat}{ty:TypeId}{d:D}{env:Env}{σ:St}{rest:List (Nat×Cls)}
def zbH(t:Option Tmp)(d:D)(env:Env):Env:=match t with
 |some t=>(t,d)::env
 |none=>env
theorem z_wO{t:Option Tmp}{R:D→St→Prop}(a:c.isW=true)(hi:l[i]? =some o)(b:o.dst=t)(hw:z7 l env o=some true)(hs:zp P o (ev env) σ R)(h:∀d σ',R d σ'→Run P l.toArray X Q rest (zbH t d env) σ'):Run P l.toArray X Q ((i,c)::rest) env σ:=by
 cases t with
 |some t=>exact z_w a hi b hw hs h
 |none=>exact zcl a hi b hw hs h
theorem qDa{α β:Type}{q:Option (Int⊕α)}{g:α→Option (Int⊕β)}{v:Int⊕β}{t:Option Tmp}{f:FuncId}{args:Array Operand}{j:Array TypeId}{ds:List D}{n:α→D}{F:Int→D}{G:D→Prop}(H:c.isW=true)(hr:bindX q g=some v)[I:CaI P f][J:Cx P f q ds n F](M:yZ (ev env) args.toList ds)(hX:∀d,G d→K.X d [])(hd:∀k,.inl k=v→G (F k))(u:∀r,q=some (.inr r)→g r=some v→Rn fz τb P Q (fun _=>K.X) l rest (zbH t (n r) env) σ):AtO fz τb P Q (fun _=>K.X) l i c rest env σ t ty (.call {callee:=.value (.func f),args:=args,argTypes:=j}):=by
 refine⟨?_⟩;intro o N W O S Y;rcases zaC hr with⟨k,b,A⟩|⟨r,b,A⟩
 have B:=J.h _ b;exact qmM N O (qv6 (σ1:=[]) σ S I.h M (List.Perm.refl _) (qg0 B)) (hX _ (hd k A)) H;have B:=J.h _ b;refine z_wO H N W O (qee (σ1:=[]) (R:=fun d s=>d=n r∧s=[]) σ S I.h M (List.Perm.refl _) ?_) fun d σ' e=>?_;intro w p Z hi hv;refine(B w p Z hi hv).mono fun e w' hl=>?_;rcases hl with⟨v1,d,σ',V,rfl,⟨a,C,hQ⟩,h3,h4⟩|⟨v1,d,σ',V,rfl,⟨k,u,_⟩,_⟩
 injection C with C
 subst C;exact .inl ⟨v1,d,[],V,rfl,⟨hQ,rfl⟩,h3,Inv.less (σ:=[]) (τ:=σ') (h4.of (by rfl) (by rfl) (by rfl))⟩;cases u;obtain⟨σ1,⟨rfl,rfl⟩,rfl⟩:=e;exact(u r b A).h
theorem qAa{α β ν:Type}{q:Option (Int⊕α)}{g:α→Option (Int⊕β)}{v:Int⊕β}{t:Option Tmp}{f:FuncId}{args:Array Operand}{j:Array TypeId}{F:ν→SpX α}{ds:List D}{s1 τ:St}{p:α→D→St→Prop}{u:Int→D}{w:D→Prop}(nm:ν)(A:c.isW=true)(hr:bindX q g=some v)[B:CaI P f][C:Cox P f q F](hF:F nm=⟨ds,s1,p,u⟩)(G:yZ (ev env) args.toList ds)(H:σ.Perm (s1++τ))(hX:∀d,w d→K.X d [])(hd:∀k,.inl k=v→w (u k))(N:∀r d σ',q=some (.inr r)→g r=some v→p r d σ'→Rn fz τb P Q (fun _=>K.X) l rest (zbH t d env) (σ'++τ)):AtO fz τb P Q (fun _=>K.X) l i c rest env σ t ty (.call {callee:=.value (.func f),args:=args,argTypes:=j}):=by
 refine⟨?_⟩;intro o I O J M S;rcases zaC hr with⟨k,b,n⟩|⟨r,b,n⟩
 have a:=C.h nm _ b;rw[hF]at a;exact qmM I J (qv6 τ M B.h G H (qg0 a)) (hX _ (hd k n)) A;have a:=C.h nm _ b;rw[hF]at a;refine z_wO A I O J (qee τ M B.h G H (qic a)) fun d σ' e=>?_;obtain⟨σ1,V,rfl⟩:=e;exact(N r d σ1 b n V).h
theorem qxD{α β ν:Type}{q:Option (Int⊕α)}{g:α→Option (Int⊕β)}{v:Int⊕β}{t:Option Tmp}{f:FuncId}{x:Operand}{args:Array Operand}{j:Array TypeId}{F:ν→SpX α}{ds p cs:List D}{s1 τ:St}{u:α→D→St→Prop}{w:Int→D}{A:D→Prop}(nm:ν)(B:c.isW=true)(hr:bindX q g=some v)(C:ev env x=some (.clo (.func f) p cs))[G:CaI P f][H:Cox P f q F](I:evL (ev env) args.toList=some ds)(hF:F nm=⟨p++ds++cs,s1,u,w⟩)(J:σ.Perm (s1++τ))(hX:∀d,A d→K.X d [])(hd:∀k,.inl k=v→A (w k))(S:∀r d σ',q=some (.inr r)→g r=some v→u r d σ'→Rn fz τb P Q (fun _=>K.X) l rest (zbH t d env) (σ'++τ)):AtO fz τb P Q (fun _=>K.X) l i c rest env σ t ty (.call {callee:=.value x,args:=args,argTypes:=j}):=by
 refine⟨?_⟩;intro o M V N O W;rcases zaC hr with⟨k,b,n⟩|⟨r,b,n⟩
 have a:=H.h nm _ b;rw[hF]at a;exact qmM M N (qyl τ O C G.h (qlk I) rfl J (qg0 a)) (hX _ (hd k n)) B;have a:=H.h nm _ b;rw[hF]at a;refine z_wO B M V N (qok τ O C G.h (qlk I) rfl J (qic a)) fun d σ' e=>?_;obtain⟨σ1,Y,rfl⟩:=e;exact(S r d σ1 b n Y).h
theorem qA9{x:Operand}{te:TypeId}{d0:D}{a:D→Prop}(b:c.isW=true)(h:ev env x=some (.ifc te d0))(hX:∀d,a d→K.X d [])(hd:a (.ifc te d0)):AtO fz τb P Q (fun _=>K.X) l i c rest env σ none ty (.panic x):=by
 refine⟨?_⟩;intro o e q j n p;exact qmM e j (qz1 n h) (hX _ hd) b
theorem qDs{x:Operand}{te:TypeId}{a:Array Field}(b:P.underlying te=some (.struct a))(h:ev env x=some d)(e:Rn fz τb P Q X l rest ((t,.ifc te d)::env) σ):AtO fz τb P Q X l i c rest env σ (some t) ty (.makeInterface te x):=by
 refine⟨?_⟩;intro o j n p q u;exact z_d j n p (qjy q b h) e.h
theorem qzb{α β ν:Type}{q:Option α}{g:α→Option β}{v:β}{t:Option Tmp}{f:FuncId}{x:Operand}{args:Array Operand}{a:Array TypeId}{F:ν→SpD α}{ds b cs:List D}{s1 τ:St}{j:α→D→St→Prop}(nm:ν)(u:c.isW=true)(hr:q.bind g=some v)(w:ev env x=some (.clo (.func f) b cs))[A:CaI P f][B:Co P f q F](C:evL (ev env) args.toList=some ds)(hF:F nm=⟨b++ds++cs,s1,j⟩)(G:σ.Perm (s1++τ))(H:∀r d σ',q=some r→g r=some v→j r d σ'→Rn fz τb P Q X l rest (zbH t d env) (σ'++τ)):AtO fz τb P Q X l i c rest env σ t ty (.call {callee:=.value x,args:=args,argTypes:=a}):=by
 refine⟨?_⟩;intro o I J M N O;obtain⟨r,n,S⟩:=zV hr;have p:=B.h nm r n;rw[hF]at p;refine z_wO u I J M (qok τ N w A.h (qlk C) rfl G p) fun d σ' e=>?_;obtain⟨σ1,V,rfl⟩:=e;exact(H r d σ1 n S V).h
theorem qfl{α ν:Type}{q:Option α}{r:α}{t:Option Tmp}{f:FuncId}{args:Array Operand}{a:Array TypeId}{F:ν→SpD α}{ds:List D}{s1 τ:St}{b:α→D→St→Prop}(nm:ν)(hq:q=some r)(n:c.isW=true)[p:CaI P f][u:Co P f q F](hF:F nm=⟨ds,s1,b⟩)(w:yZ (ev env) args.toList ds)(A:σ.Perm (s1++τ))(B:∀d σ',b r d σ'→Rn fz τb P Q X l rest (zbH t d env) (σ'++τ)):AtO fz τb P Q X l i c rest env σ t ty (.call {callee:=.value (.func f),args:=args,argTypes:=a}):=by
 refine⟨?_⟩;intro o C G H I J;have j:=u.h nm r hq;rw[hF]at j;refine z_wO n C G H (qee τ I p.h w A j) fun d σ' e=>?_;obtain⟨σ1,M,rfl⟩:=e;exact(B d σ1 M).h
end
end Go.Proofs.YtgcegilpajfdhaaGreat
