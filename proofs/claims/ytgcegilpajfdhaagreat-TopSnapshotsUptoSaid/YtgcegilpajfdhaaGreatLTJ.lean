/-
 Texts of the seat,merged.
-/
import Derived.Test.YtgcegilpajfdhaaGreatLTI
set_option linter.unusedVariables false
set_option linter.unusedSimpArgs false
set_option linter.unnecessarySimpa false
set_option linter.all false
set_option maxHeartbeats 8000000
namespace Go.Proofs.YtgcegilpajfdhaaGreat
open Go.Proofs.Tryz
set_option maxRecDepth 100000
open Go.RowKit
open Classical
section
variable{p:qf}{c:qe}{o:Int}
def frY(g:Gl):qB:=⟨g,0,0⟩
theorem qwr{fuel k:Nat}{r:qs}{x:qQ}{st:List qB}(m:10000000000<fuel)(h:StO p c o)(hr:p.fe[k]? =some r)(S:x.f0_event.fI=(k:Int))(d:zcB p r)(U:∀f∈st,f∈c.fk)(hsl:st.length≤1000)(P:ChOk (Fre c) c (zm r) x.f1_choice):Yl (qdV fuel r ⟨st,c.fh,c.fo,c.fC,c.fl,c.fg,c.fE⟩ x) fun z=>z.2=0→StO p z.1 o∧z.1.fg=c.fg+r.fF:=by
 unfold qdV;have hgl:=d.gl;have hhd:=d.hd;have hn:=h.n;have hF:=h.f;have hvn:=d.vn;have L:∀q∈x.f1_choice.f1_env,wt q.2≤200:=fun q hq=>(P.e q hq).1;refine Yl.bind (Yl.mkA oa ?_);rw[jO];dsimp only;refine Yl.fill (z:=(⟨0,⟨#[]⟩,[]⟩:Gl)) (InG x.f1_choice.f1_env c.fg) r.fx _ og (fun j q a nx G J A=>?_) fun gs H=>?_;have hq:=List.mem_of_getElem? G;have C:=d.rg q (jB _ hq);have hj:=(jd.1 G).1;have:=(qdC C).2;refine Yl.bind ((qj8 L hF oa oa (qlR C)).to fun u hu=>?_);refine Yl.getN (jj oa) ?_;rw[qhk oa];exact A u hu;have hgsl:=H.1;rw[qex oa];refine Yl.ite (fun _=>.ret fun h=>by cases h) fun G=>?_;have G:=of_decide_eq_false G;have V:∀g∈gs,wtL g.ts≤1000000000:=fun g E=>by
  obtain⟨b,hb,hi⟩:=H.mem E;have:=(qdC (d.rg b (jB _ hb))).2;have:=hi.2.2.2.1;omega
 have he:qc4 gs=some (gs.all zu):=by
  unfold qc4 qck qdi;rw[qf5 qcu (fun x=>!zu x) gs (fun x S=>by
   unfold qcu;rw[show qef x=some (zu x)from if_pos (V x S)];rfl) fun _ _ _=>rfl]
  simp only[jb,qhW,qeE]
 refine Yl.bind (Yl.val he (Yl.ite (fun _=>.ret fun h=>by cases h) fun J=>?_));have J:∀g∈gs,zu g=true:=by
  intro g E;have:gs.all zu=true:=by
   cases hh:gs.all zu with
   |true=>rfl
   |false=>rw[hh]at J;cases J
  exact jD.1 this g E
 rw[qex oa];refine Yl.ite (fun _=>.ret fun h=>by cases h) fun h3=>?_;have h3:=of_decide_eq_false h3;have hids:=P.l;have hhl:(zm r).length=r.fm.length+r.ft.length:=by unfold zm;rw[ja]
 refine Yl.bind (Yl.subO ⟨by omega,by omega,by omega⟩ ?_);rw[jO,jO,jF];have hS:=h.s.n;refine Yl.forL (I:=fun i s=>∃l:List (Int×At),s=⟨st,l,c.fo,c.fC,c.fl,c.fg,c.fE⟩∧l.Sublist c.fh∧(i=0→l=c.fh)) _ 0 _ ⟨_,rfl,List.Sublist.refl _,fun _=>rfl⟩ (fun i q s nx hi W A=>?_) fun s W=>?_;obtain⟨l,rfl,K,_⟩:=W;dsimp only;have:=K.length_le;have X:∃l' b,qiJ l q=some (l',b)∧l'.Sublist l:=by
  unfold qiJ;rw[if_pos oa];cases l.findIdx? fun x=>x.1==q with
  |none=>exact⟨_,_,rfl,List.Sublist.refl _⟩
  |some k=>exact⟨_,_,rfl,List.eraseIdx_sublist ..⟩
 obtain⟨l',b,Y,Z⟩:=X;exact Yl.bind (Yl.val Y (A _ ⟨l',rfl,Z.trans K,fun h=>absurd h oa⟩));obtain⟨l,rfl,K,g2⟩:=W;dsimp only;have hll:=K.length_le;refine Yl.bind (Yl.mkA oa ?_);rw[jO];refine Yl.fill (z:=(0:Int)) (fun(x:Int×At)(i:Int)=>i=x.1) l _ og (fun j q a nx G J A=>?_) fun ids F=>?_;have hj:=(jd.1 G).1;refine Yl.getN (jj oa) ?_;rw[qhk oa];exact A _ rfl;have hil:=F.1;have hfl:=h.h.n;refine Yl.bind ((qA2 c.fC ids oa oa).to fun fr hfr=>?_);obtain⟨Q,p2⟩:=hfr;have hin:∀i∈ids,i∈l.map (·.1):=fun i hi=>by
  obtain⟨y,hy,e⟩:=F.mem hi;rw[e];exact jM hy
 have hFi:zcJ fr:=⟨by have:=Q.length_le;omega,fun f m=>h.h.v f (Q.subset m),h.h.p.sublist Q⟩
 have t:∀y∈l,y∈c.fh:=fun y hy=>K.subset hy;have fin:∀B:List qu,zcJ B→(∀f∈B,zcb p ⟨c.fk,l,c.fo,c.fC,c.fl,c.fg,c.fE⟩ f)→Yl ((qgA st gs).bind fun M=>some ((⟨M,l,c.fo,B,c.fl,wr (c.fg+r.fF),c.fE⟩:qe),(0:Int))) fun z=>z.2=0→StO p z.1 o∧z.1.fg=c.fg+r.fF:=fun B k1 k2=>by
  refine Yl.bind (Yl.val (show qgA st gs=some (st++gs.reverse.map frY)from if_pos oa) (.ret fun _=>?_));rw[qex oa];have up:∀w,Fre c w→Fre (⟨st++gs.reverse.map frY,l,c.fo,B,c.fl,c.fg+r.fF,c.fE⟩:qe) w:=fun w hw=>⟨by have:=hw.1;dsimp only;omega,hw.2⟩
  refine⟨⟨?_,hn,⟨by dsimp only;omega,by dsimp only;omega⟩,⟨by dsimp only;omega,h.s.p.sublist K,fun y hy=>h.s.g y (t y hy),fun y hy=>h.s.a y (t y hy)⟩,h.b,k1,fun f m=>?_,fun y hy=>(h.it y (t y hy)).up (vf _) up,fun q hq=>?_,fun f m=>k2 f m⟩,rfl⟩;simp only[ja,jh,List.length_reverse];omega;rcases jl.1 m with m|m
  exact(h.fr f (U f m)).up (vf _) up;obtain⟨g,E,rfl⟩:=jt.1 m;have E:=JM.1 E;obtain⟨b,hb,hi⟩:=H.mem E;refine⟨fun h=>absurd rfl h,fun _=>⟨rfl,J g E,fun w hw=>?_,?_⟩⟩;rcases hi.2.2.2.2 w hw with⟨v,hv,e⟩|⟨q,hq,hw⟩
  have hv1:=qlR (d.rg b (jB _ hb)) v hv;have hv2:=d.vr b hb v hv;refine⟨by dsimp only;omega,fun hm=>?_⟩;obtain⟨q,hq,e'⟩:=jt.1 hm;have:=(h.bn q hq).n;omega;exact up w ((P.e q hq).2 w hw);obtain⟨d1,d2⟩:=d.bd b hb;show(1≤g.op∧g.op≤4)∨g.op=0∧Dcl p g.n g.ts.length;rw[hi.1,hi.2.1,hi.2.2.1];by_cases h0:b.op=0;exact .inr ⟨h0,d2 h0⟩;refine .inl ⟨?_,d1⟩;have C:=d.rg b (jB _ hb);have hl:=qh4 C h0;have:0≤zO b.op:=by omega
  unfold zO at this;split at this
  omega;split at this
  omega;split at this<;>omega
  have:=h.bn q hq;exact⟨by have:=this.n;dsimp only;omega,fun w hw=>by have:=this.f w hw;dsimp only;omega⟩
 have N:∀f∈fr,zcb p ⟨c.fk,l,c.fo,c.fC,c.fl,c.fg,c.fE⟩ f:=fun f m=>by
  obtain⟨r',Y,Z,e3,e4⟩:=h.fc f (Q.subset m);exact⟨r',Y,Z,e3,fun i hi=>hin i (p2 f m i hi)⟩
 refine Yl.bind (Yl.val (show qaU r=some _ from rfl) (Yl.ite (fun R=>?_) fun _=>fin fr hFi N));have R:r.ft=[]:=by simpa using R
 have hpl:r.ft.length=0:=by rw[R];rfl
 have O:l=c.fh:=g2 (by rw[j4];omega);refine Yl.bind ((qv3 fr _).to fun z hz=>Yl.ite (fun _=>.ret fun h=>by cases h) fun h4=>?_);obtain⟨z1,z2⟩:=hz (by simpa using h4);refine fin z.1 z1 fun f m=>?_;rcases z2 f m with m|rfl
 exact N f m;refine⟨r,?_,R,?_,fun i hi=>?_⟩;show getI p.fe x.f0_event.fI=some r;rw[S,qgn hr];show x.f1_choice.f0_ids.length=_;omega;show i∈l.map (·.1);rw[O];exact P.s i hi
def OpOk(p:qf)(c:qe)(f:qB)(x:qQ):Prop:=(x.f0_event.fG=1∧f.fj=0)∨(x.f0_event.fG=2∧f.fj=0∧f.fi.op=0)∨(x.f0_event.fG=3∧f.fj≠0∧f.fA= -1)∨x.f0_event.fG=7∨(x.f0_event.fG=6∧f.fj≠0∧f.fA<zaq p)∨((x.f0_event.fG=4∨x.f0_event.fG=5)∧∃(k:Nat)(r:qs),x.f0_event.fI=(k:Int)∧p.fe[k]? =some r∧ChOk (Fre c) c (zm r) x.f1_choice)
theorem qys{o:qD}(h:o∈(yD p).map (·.1)):∃k:Nat,o.fp=(k:Int)∧k<p.fe.length:=by
 obtain⟨q,hq,rfl⟩:=jt.1 h;unfold yD at hq;obtain⟨l,hl,hq⟩:=List.mem_flatten.1 hq;obtain⟨x,a,rfl⟩:=jt.1 hl;unfold zcd at hq;obtain⟨y,_,rfl⟩:=jt.1 (JM.1 hq);obtain⟨i,hi,e⟩:=List.getElem_of_mem a;rw[List.getElem_zipIdx]at e;rw[List.length_zipIdx]at hi;refine⟨x.2,rfl,?_⟩;rw[←e];dsimp only;omega
theorem qwP{fuel:Nat}(hf:10000001000<fuel)(h:StO p c (zaq p))(U:zbV p)(V:(yD p).length<1000000000∧∀r∈p.fe,(zm r).length<1000000000):Yl (qcg fuel p c 1) fun l=>∀x∈l,∃f s,c.fk=s++[f]∧OpOk p c f x:=by
 unfold qcg;refine Yl.ite (fun _=>.ret fun x u=>by cases u) fun _=>Yl.ite (fun _=>.ret fun x u=>by cases u) fun M=>?_;have M:c.fk.length≠0:=by
  intro e;rw[e]at M;cases M
 have hk:=h.k;obtain⟨m,hm⟩:∃m,c.fk.length=m+1:=⟨c.fk.length-1,by omega⟩
 rw[qex oa];have em:(c.fk.length:Int)-1=(m:Int):=by omega
 rw[em];have hq:c.fk[m]? =some (c.fk[m]'(by omega)):=jj oa;refine Yl.getN hq ?_;have E:=h.fr _ (List.mem_of_getElem? hq);have v:c.fk=c.fk.take m++[c.fk[m]'(by omega)]:=by
  conv=>lhs;rw[←j7 m c.fk,vX oa,vo oa]
 generalize W:c.fk[m]'(by omega)=f at*;have one:∀(x:qQ),OpOk p c f x→Yl (some [x]) fun l=>∀x∈l,∃f s,c.fk=s++[f]∧OpOk p c f x:=fun x u=>.ret fun y hy=>by
  rw[jr.1 hy];exact⟨f,_,v,u⟩
 unfold qaq;refine Yl.ite (fun A=>?_) fun A=>?_;have A:f.fj=0:=by simpa using A
 have hb:qbv f.fi=some (decide (1≤f.fi.op∧f.fi.op≤4)):=by
  unfold qbv;by_cases g:f.fi.op≥1;rw[decide_eq_true g,cond_true];congr 1
  rw[jP,decide_eq_true_iff,decide_eq_true_iff];exact⟨fun h=>⟨g,h⟩,fun h=>h.2⟩;rw[decide_eq_false g,cond_false];congr 1
  exact(decide_eq_false fun h=>g h.1).symm
 refine Yl.bind (Yl.val hb (Yl.ite (fun _=>Yl.bind (Yl.ret (one _ (.inl ⟨rfl,A⟩)))) fun B=>Yl.bind (Yl.ret (one _ (.inr (.inl ⟨rfl,A,?_⟩))))));have B:=of_decide_eq_false B;rcases(E.z A).2.2.2 with h|h
 exact absurd h B;exact h.1;have A:f.fj≠0:=by simpa using A
 obtain⟨w1,w2,w3,w4⟩:=E.w A;refine Yl.bind ((qzv c.fh f.fj).to fun r hr=>Yl.ite (fun _=>Yl.bind (Yl.ret (one _ (.inr (.inr (.inr (.inl rfl))))))) fun _=>Yl.ite (fun B=>Yl.bind (Yl.ret (one _ (.inr (.inr (.inl ⟨rfl,A,by simpa using B⟩)))))) fun B=>?_);have B:f.fA≠-1:=by simpa using B
 refine Yl.bind (Yl.val (if_pos V) (Yl.ite (fun _=>Yl.bind (Yl.ret (one _ (.inr (.inr (.inr (.inl rfl))))))) fun N=>?_));have N:=of_decide_eq_false N;obtain⟨j,X⟩:∃j:Nat,f.fA=(j:Int):=⟨f.fA.toNat,by omega⟩
 rw[X]at N⊢;have Y:(((yD p).filter (yJ r.1.n (r.1.ts.length:Int))).map (·.1)).length≤(yD p).length:=by
  rw[jh];exact Jp ..
 have Z:((yD p).map (·.1)).length=(yD p).length:=jh ..;have F:(((yD p).filter (yJ r.1.n (r.1.ts.length:Int))).map (·.1))[j]? =some ((((yD p).filter (yJ r.1.n (r.1.ts.length:Int))).map (·.1))[j]'(by omega)):=jj oa;refine Yl.getN F ?_;generalize (((yD p).filter (yJ r.1.n (r.1.ts.length:Int))).map (·.1))[j]'(by omega)=oc at*;obtain⟨k,G,d⟩:=qys (p:=p) (o:=oc) (by
  obtain⟨y,hy,e⟩:=jt.1 (List.mem_of_getElem? F);rw[←e];exact jM (vS.1 hy).1)
 refine Yl.jn (J:=fun x=>x=4∨x=5) (fun kk H=>Yl.ite (fun _=>H _ (.inr rfl)) fun _=>H _ (.inl rfl)) fun kd O=>?_;have C:p.fe[k]? =some (p.fe[k]'d):=jj d;have hR:=U.ru _ (List.mem_of_getElem? C);have P:Yl (qdZ fuel p c oc f.fj 1) fun l=>l.length≤1∧∀x∈l,ChOk (Fre c) c (zm (p.fe[k]'d)) x:=by
  unfold qdZ;rw[G];have hhd:=hR.hd;refine Yl.getN C (Yl.bind (Yl.val (show qfe (p.fe[k]'d)=some (zm (p.fe[k]'d))from ?_) ?_));unfold qfe qf4;rw[jb,qex oa,show zad 40 (((p.fe[k]'d).fm.length:Int)+((p.fe[k]'d).ft.length:Int))=some _ from if_pos oa,jb,qeL oe oe,jb,qeL oe oe];rfl;have hhl:(zm (p.fe[k]'d)).length=(p.fe[k]'d).fm.length+(p.fe[k]'d).ft.length:=by unfold zm;rw[ja]
  have Q:Cj (Fre c) c (p.fe[k]'d) (zm (p.fe[k]'d)):=⟨h.b.wt,h.f,fun x u t R=>⟨by have:=h.s.wl x u;have:=qdT R;omega,fun w hw=>(h.it x u).f w (qfZ.2 ⟨t,R,hw⟩)⟩,⟨by omega,fun a ha=>qgG (hR.ra a ha)⟩,fun g S=>⟨(qdC (hR.rg g (jz _ S))).2,qlR (hR.rg g (jz _ S))⟩⟩
  refine Yl.bind ((qui Q (o:=oc) (id:=f.fj) fuel [] [] oa (ju _) (fun i hi=>by cases hi) (fun q hq=>by cases hq) (ju _)).to fun z hz=>?_);obtain⟨fd,rfl,e1,e2⟩:=hz;exact .ret ⟨e1,e2⟩
 refine Yl.bind (P.to fun l hl=>?_);refine Yl.forL (I:=fun i out=>out.length≤i∧∀x∈out,OpOk p c f x) l 0 [] ⟨jf _,fun x u=>by cases u⟩ (fun i q out nx hi L K=>?_) fun out L=>Yl.ite (fun _=>Yl.bind (Yl.ret (one _ (.inr (.inr (.inr (.inr (.inl ⟨rfl,A,?_⟩)))))))) fun _=>.ret fun x u=>⟨f,_,v,L.2 x u⟩
 rw[jc]at L K;have hi2:=(jd.1 hi).1;have hll:=hl.1;refine Yl.bind (Yl.appO (by simp only[jg,ji];omega) (K _ ⟨by simp;omega,fun x u=>?_⟩));rcases jl.1 u with u|u
 exact L.2 x u;rw[jr.1 u];exact .inr (.inr (.inr (.inr (.inr ⟨O,k,_,G,C,hl.2 q (List.mem_of_getElem? hi)⟩))));unfold zaq;omega
theorem qwe{fuel:Nat}{f:qB}{s:List qB}{x:qQ}(H:10000000000<fuel)(h:StO p c (zaq p))(P:zbV p)(R:zaq p<1000000000){B:Int}(X:0≤B)(L:∀r∈p.fe,r.fF≤B)(hs:c.fk=s++[f])(C:OpOk p c f x):Yl (qb7 fuel p c x) fun r=>r.2=0→StO p r.1 (zaq p)∧r.1.fg≤c.fg+B:=by
 unfold qb7;have S:=h.k;have U:c.fk.length=s.length+1:=by rw[hs];simp
 rw[qex oa];have em:(c.fk.length:Int)-1=(s.length:Int):=by omega
 rw[em];have hq:c.fk[s.length]? =some f:=by rw[hs];simp
 refine Yl.getN hq (Yl.bind (Yl.subO ⟨by omega,by omega,by omega⟩ ?_));have V:(c.fk.take (s.length:Int).toNat).drop (0:Int).toNat=s:=by
  rw[jO,Je,vJ,hs,vK]
 rw[V];have d:∀g∈s,g∈c.fk:=fun g a=>by rw[hs];exact jz _ a
 have t:=h.fr f (by rw[hs];simp);have M:StO p ⟨s,c.fh,c.fo,c.fC,c.fl,c.fg,c.fE⟩ (zaq p):=⟨by dsimp only;omega,h.n,h.f,h.s,h.b,h.h,fun g a=>(h.fr g (d g a)).up (vf _) fun w hw=>hw,fun y hy=>(h.it y hy).up (vf _) fun w hw=>hw,fun q hq=>⟨(h.bn q hq).n,(h.bn q hq).f⟩,fun g a=>h.fc g a⟩
 have N:0≤zaq p:=by unfold zaq;omega
 have post:∀(r:qe×Int),(r.2=0→StO p r.1 (zaq p)∧r.1.fg≤c.fg+B)→Yl (bif(r.2 !=(0:Int))then some ((⟨[],[],[],[],0,0,false⟩:qe),r.2)else some (r.1,0)) fun r=>r.2=0→StO p r.1 (zaq p)∧r.1.fg≤c.fg+B:=fun r hr=>Yl.ite (fun j=>.ret fun m=>by
  dsimp only at m;rw[m]at j;cases j) fun j=>.ret fun _=>hr (by simpa using j)
 have again:∀oc:Int,-1≤oc→oc≤zaq p→f.fj≠0→StO p ⟨s++[⟨⟨0,⟨#[]⟩,[]⟩,f.fj,oc⟩],c.fh,c.fo,c.fC,c.fl,c.fg,c.fE⟩ (zaq p):=fun oc j m hi=>⟨by simp;omega,h.n,h.f,h.s,h.b,h.h,fun g a=>by
  rcases jl.1 a with a|a
  exact(h.fr g (d g a)).up (vf _) fun w hw=>hw;rw[jr.1 a];exact⟨fun _=>⟨(t.w hi).1,⟨rfl,qe5,rfl⟩,j,m⟩,fun e=>absurd e hi⟩,fun y hy=>(h.it y hy).up (vf _) fun w hw=>hw,fun q hq=>⟨(h.bn q hq).n,(h.bn q hq).f⟩,fun g a=>h.fc g a⟩
 have u:∀{A:qe×Int}{B:Option (qe×Int)}{Q:qe×Int→Prop},Yl B Q→Yl (bif((0:Int) !=(0:Int))then some A else B) Q:=fun h=>h;refine Yl.ite (fun j=>?_) fun j=>Yl.ite (fun m=>?_) fun m=>Yl.ite (fun E=>?_) fun E=>Yl.ite (fun F=>?_) fun F=>Yl.ite (fun I=>u (.ret fun _=>⟨M,by dsimp only;omega⟩)) fun I=>?_
 · have j:x.f0_event.fG=1:=by simpa using j
   have hi:f.fj=0:=by
    rcases C with h|h|h|h|h|⟨h|h,_⟩
    · exact h.2
    all_goals omega
   obtain⟨W,J,z3,z4⟩:=t.z hi;exact Yl.bind ((qAn H M N J z3).to fun r hr=>post r fun l=>⟨(hr l).1,by have:=(hr l).2;dsimp only at this;omega⟩)
 · have m:x.f0_event.fG=2:=by simpa using m
   have hi:f.fj=0∧f.fi.op=0:=by
    rcases C with h|h|h|h|h|⟨h|h,_⟩
    · omega
    · exact h.2
    all_goals omega
   obtain⟨W,J,z3,z4⟩:=t.z hi.1;have hd:Dcl p f.fi.n f.fi.ts.length:=z4.elim (fun h=>absurd h oa) fun h=>h.2;have hw:=(qdC J).2;refine Yl.bind (Yl.appO (by simp only[jg,ji];omega) ?_);have hn:=h.n;refine Yl.bind ((qvk h oe (fun g a=>?_) oa z3 hd).to fun r hr=>post r fun l=>⟨(hr l).1,by have:=(hr l).2;omega⟩);rcases jl.1 a with a|a
   · exact(h.fr g (d g a)).up (by dsimp only;omega) fun w hw=>hw
   · rw[jr.1 a]
     exact⟨fun _=>⟨⟨by dsimp only;omega,by dsimp only;omega⟩,⟨rfl,qe5,rfl⟩,by dsimp only;omega,N⟩,fun e=>absurd e (by dsimp only;omega)⟩
 · have E:x.f0_event.fG=3:=by simpa using E
   have hi:f.fj≠0∧f.fA= -1:=by
    rcases C with h|h|h|h|h|⟨h|h,_⟩
    · omega
    · omega
    · exact h.2
    all_goals omega
   refine Yl.bind (Yl.appO (by simp only[jg,ji];omega) (u (.ret fun _=>?_)));rw[qex oa];exact⟨again _ oa oa hi.1,by dsimp only;omega⟩
 · have F:x.f0_event.fG=6:=by simpa using F
   have hi:f.fj≠0∧f.fA<zaq p:=by
    rcases C with h|h|h|h|h|⟨h|h,_⟩
    · omega
    · omega
    · omega
    · omega
    · exact h.2
    all_goals omega
   have hw:=(t.w hi.1).2.2.1;refine Yl.bind (Yl.appO (by simp only[jg,ji];omega) (u (.ret fun _=>?_)));rw[qex oa];exact⟨again _ oa oa hi.1,by dsimp only;omega⟩
 have hK:∃(k:Nat)(r:qs),x.f0_event.fI=(k:Int)∧p.fe[k]? =some r∧ChOk (Fre c) c (zm r) x.f1_choice:=by
  have j:x.f0_event.fG≠1:=by simpa using j
  have m:x.f0_event.fG≠2:=by simpa using m
  have E:x.f0_event.fG≠3:=by simpa using E
  have F:x.f0_event.fG≠6:=by simpa using F
  have I:x.f0_event.fG≠7:=by simpa using I
  rcases C with h|h|h|h|h|⟨_,h⟩
  omega;omega;omega;omega;omega;exact h
 obtain⟨k,r,K,v,O⟩:=hK;have hR:=P.ru r (List.mem_of_getElem? v);rw[K];refine Yl.ite (fun _=>Yl.getN v ?_) fun _=>Yl.getN v ?_;exact Yl.bind ((qwr H h v K hR d oa O).to fun z G=>post z fun l=>⟨(G l).1,by have:=(G l).2;have:=L r (List.mem_of_getElem? v);omega⟩);exact Yl.bind ((qwr H h v K hR (fun g a=>a) S O).to fun z G=>post z fun l=>⟨(G l).1,by have:=(G l).2;have:=L r (List.mem_of_getElem? v);omega⟩)
theorem StO.bg(h:StO p c o):BgC c:=⟨fun x d=>by have:=h.s.wl x d;omega,fun q hq=>by have:=h.b.wt q hq;omega,by have:=h.b.len;omega,fun f a=>by
 by_cases hi:f.fj=0;have:=(qdC ((h.fr f a).z hi).2.1).2;omega;rw[((h.fr f a).w hi).2.1.2.2];decide⟩
def OcB(p:qf):Prop:=(yD p).length<1000000000∧∀r∈p.fe,(zm r).length<1000000000
theorem qzT{fuel:Nat}(z:10000001000<fuel)(q:zbV p)(g:Yl (qdp p) fun _=>True)(j:OcB p)(A:BgC c){B:Int}(t:0≤B)(C:∀r∈p.fe,r.fF≤B){n:Nat}(hn:n≤1000000):Yl (qbl fuel p c (n:Int)) fun r=>((ScOk p∧StO p c (zaq p))→StO p r.1 (zaq p)∧r.2.1.length≤n∧r.1.fg≤c.fg+n*B)∧(¬(ScOk p∧StO p c (zaq p))→r=(⟨[],[],[],[],0,0,false⟩,[],2)):=by
 unfold qbl;rw[show decide ((n:Int)<0)=false from decide_eq_false oa,cond_false];refine Yl.bind ((qxl g j A).to fun b hb=>Yl.ite (fun a=>.ret ⟨fun h=>?_,fun _=>rfl⟩) fun a=>?_);rw[hb.2 h]at a;cases a;obtain⟨E,u⟩:=hb.1 (by simpa using a);refine Yl.forF (I:=fun s=>s.1.length≤n∧StO p s.2 (zaq p)∧s.2.fg≤c.fg+s.1.length*B) (μ:=fun s=>n-s.1.length) ?_ fuel _ ⟨ju _,u,by simp⟩ (by dsimp only;omega);rintro⟨out,c'⟩ K ⟨v,d,F⟩ IH;dsimp only at v d F⊢;have L:(out.length:Int)*B≤(n:Int)*B:=Int.mul_le_mul_of_nonneg_right oa t;have fin:∀e:Int,Yl (some (c',out,e)) fun r=>((ScOk p∧StO p c (zaq p))→StO p r.1 (zaq p)∧r.2.1.length≤n∧r.1.fg≤c.fg+n*B)∧(¬(ScOk p∧StO p c (zaq p))→r=(⟨[],[],[],[],0,0,false⟩,[],2)):=fun e=>.ret ⟨fun _=>⟨d,v,by dsimp only;omega⟩,fun h=>absurd ⟨E,u⟩ h⟩;refine Yl.bind ((qwP z d q j).to fun l hl=>Yl.ite (fun _=>fin _) fun G=>Yl.ite (fun _=>fin _) fun m=>?_);have m:out.length≠n:=by
  intro e;rw[e]at m;simp at m
 cases l with
 |nil=>cases G
 |cons x l=>
  obtain⟨f,s,H,J⟩:=hl x (je ..);refine Yl.bind (Yl.getN (k:=0) rfl (Yl.bind ((qwe oa d q (by unfold zaq;rw[jh];have:=j.1;omega) t C H J).to fun r hr=>.ret (Yl.ite (fun _=>fin _) fun w=>?_))));have M:=(hr (by simpa using w)).2;have N:((out.length+1:Nat):Int)*B=(out.length:Int)*B+B:=by
   rw[Int.natCast_add,Int.add_mul];simp
  refine Yl.bind (Yl.appO (by simp only[jg,ji];omega) (IH _ ⟨by simp;omega,(hr (by simpa using w)).1,?_⟩ oe));dsimp only;rw[ja,JX];omega
end
end Go.Proofs.YtgcegilpajfdhaaGreat
namespace Go.Proofs.YtgcegilpajfdhaaGreat
open Go.Proofs.Tryz
set_option maxRecDepth 100000
open Go.RowKit
abbrev RR3:=qe×List qO×Int
noncomputable def yH(fuel:Nat)(p:qf)(d:Int)(s:List qO×qe)(g:List qO×qe→Option RR3):Option RR3:=(qcg fuel p s.2 1).bind fun b=>bif((b.length:Int)==(0:Int))then some (s.2,s.1,0)else bif((s.1.length:Int)==d)then some (s.2,s.1,15)else((getI b 0).bind fun c=>(qb7 fuel p s.2 c).bind fun e=>some (c,e)).bind fun a=>bif(a.2.2 !=(0:Int))then some (s.2,s.1,a.2.2)else(appO 56 s.1 [a.1.f0_event]).bind fun f=>g (f,a.2.1)
theorem qBk(fuel:Nat)(p:qf)(c:qe)(a:Int):qbl fuel p c a=bif decide (a<0)then some (⟨[],[],[],[],0,0,false⟩,[],2)else(qbO p c).bind fun r=>bif !r then some (⟨[],[],[],[],0,0,false⟩,[],2)else forF (yH fuel p a) fuel ([],c):=rfl
inductive Rnd(fuel:Nat)(p:qf)(c:qe):Prop where
 |no (h:∀most out nx,yH fuel p most (out,c) nx=none)
 |ok (h:∀most out nx,yH fuel p most (out,c) nx=some (c,out,0))
 |er (e:Int) (h:∀most out nx,yH fuel p most (out,c) nx=bif((out.length:Int)==most)then some (c,out,15)else some (c,out,e))
 |li (h:∀most out nx,yH fuel p most (out,c) nx=bif((out.length:Int)==most)then some (c,out,15)else none)
 |st (ev:qO) (d:qe) (h:∀most out nx,yH fuel p most (out,c) nx=bif((out.length:Int)==most)then some (c,out,15)else(appO 56 out [ev]).bind fun l=>nx (l,d))
theorem rnd(fuel:Nat)(p:qf)(c:qe):Rnd fuel p c:=by
 cases a:qcg fuel p c 1 with
 |none=>exact .no fun _ _ _=>by unfold yH;simp only[a,Option.bind_none]
 |some l=>
  cases l with
  |nil=>exact .ok fun _ _ _=>by unfold yH;simp only[a,jb];rfl
  |cons x l=>
   have b:(((x::l).length:Int)==(0:Int))=false:=by
    simp only[jg,beq_eq_false_iff_ne,ne_eq];omega
   have d:getI (x::l) 0=some x:=rfl;cases e:qb7 fuel p c x with
   |none=>exact .li fun _ _ _=>by unfold yH;simp only[a,jb,b,d,e,Option.bind_none,cond_false]
   |some r=>
    by_cases he:r.2=0;exact .st x.f0_event r.1 fun _ _ _=>by unfold yH;simp only[a,jb,b,d,e,cond_false,he];rfl
    have:(r.2 !=(0:Int))=true:=by simpa using he
    exact .er r.2 fun _ _ _=>by unfold yH;simp only[a,jb,b,d,e,cond_false,this,cond_true]
section
variable{fuel:Nat}{p:qf}{a d:qe}{l z:List qO}{h:Int}{n m:Nat}
theorem qvY{α:Type}{o:List α}{n:Nat}(h:((o.length:Int)==(n:Int))=true):o.length=n:=by
 have:(o.length:Int)=(n:Int):=by simpa using h
 omega
theorem qkx{b:Int}:∀(k:Nat)(s:List qO×qe)(r:RR3),forF (yH fuel p b) k s=some r→∀f,k≤f→forF (yH fuel p b) f s=some r
 |0,_,_,h,_,_=>by cases h
 |k+1,(out,c),r,h,0,g=>absurd g oa
 |k+1,(out,c),r,h,f+1,g=>by
  rw[forF]at h⊢;rcases rnd fuel p c with hr|hr|⟨e,hr⟩|hr|⟨ev,c',hr⟩
  rw[hr]at h;cases h;rw[hr]at h⊢;exact h;rw[hr]at h⊢;exact h;rw[hr]at h⊢;exact h;rw[hr]at h⊢;cases hb:((out.length:Int)==b)with
  |true=>rw[hb]at h;exact h
  |false=>
   rw[hb,cond_false]at h;rw[cond_false];cases j:appO 56 out [ev]with
   |none=>rw[j]at h;cases h
   |some o=>
    rw[j,jb]at h;rw[jb];exact qkx k _ r h f oa
theorem qqQ{o:List qO}{ev:qO}(b:o.length≤1000000):appO 56 o [ev]=some (o++[ev]):=qeL (by simp only[jg,ji];omega) (by simp only[jg,ji];omega)
theorem qnO(hl:l.length=n)(f:n+m≤1000000):∀(k:Nat)(w:List qO)(c:qe),w.length≤m→forF (yH fuel p (m:Int)) k (w,c)=some (d,z,h)→forF (yH fuel p ((n+m:Nat):Int)) k (l++w,c)=some (d,l++z,h)
 |0,_,_,_,h=>by cases h
 |k+1,w,c,hw,h=>by
  rw[forF]at h⊢;have hb:(((l++w).length:Int)==((n+m:Nat):Int))=((w.length:Int)==(m:Int)):=by
   rw[ja,jP,beq_iff_eq,beq_iff_eq];omega
  rcases rnd fuel p c with hr|hr|⟨e,hr⟩|hr|⟨ev,c',hr⟩
  rw[hr]at h;cases h;rw[hr]at h⊢;cases h;rfl;rw[hr]at h⊢;rw[hb];cases b:((w.length:Int)==(m:Int))<;>rw[b]at h<;>cases h<;>rfl
  rw[hr]at h⊢;rw[hb];cases b:((w.length:Int)==(m:Int))<;>rw[b]at h<;>cases h
  rfl;rw[hr]at h⊢;rw[hb];cases b:((w.length:Int)==(m:Int))with
  |true=>rw[b]at h;cases h;rfl
  |false=>
   rw[b,cond_false]at h;have g:w.length≠m:=by
    intro e;rw[e]at b;simp at b
   rw[cond_false,qqQ (by rw[ja];omega),jb];rw[qqQ oa,jb]at h;rw[jo];exact qnO hl f k _ c' oe h
theorem qwW(g:n+m≤1000000):∀(k:Nat)(out:List qO)(c:qe),out.length≤n→forF (yH fuel p (n:Int)) k (out,c)=some (a,l,15)→(l.length≤n∧(l.length=n∨∀(b:Int)(o:List qO) q,((o.length:Int)==b)=false→yH fuel p b (o,a) q=some (a,o,15)))∧∀K r,forF (yH fuel p ((n+m:Nat):Int)) K (l,a)=some r→forF (yH fuel p ((n+m:Nat):Int)) (K+k) (out,c)=some r
 |0,_,_,_,h=>by cases h
 |k+1,out,c,f,h=>by
  rw[forF]at h;rcases rnd fuel p c with hr|hr|⟨e,hr⟩|hr|⟨ev,c',hr⟩
  rw[hr]at h;cases h;rw[hr]at h;cases h;rw[hr]at h;cases hb:((out.length:Int)==(n:Int))with
  |true=>
   rw[hb]at h;cases h;exact⟨⟨f,.inl (qvY hb)⟩,fun K r hK=>qkx K _ r hK _ oa⟩
  |false=>
   rw[hb,cond_false]at h;cases h;exact⟨⟨f,.inr fun b o q hm=>by rw[hr,hm];rfl⟩,fun K r hK=>qkx K _ r hK _ oa⟩
  rw[hr]at h;cases hb:((out.length:Int)==(n:Int))with
  |true=>
   rw[hb]at h;cases h;exact⟨⟨f,.inl (qvY hb)⟩,fun K r hK=>qkx K _ r hK _ oa⟩
  |false=>
   rw[hb]at h;cases h
  rw[hr]at h;cases hb:((out.length:Int)==(n:Int))with
  |true=>
   rw[hb]at h;cases h;exact⟨⟨f,.inl (qvY hb)⟩,fun K r hK=>qkx K _ r hK _ oa⟩
  |false=>
   rw[hb,cond_false,qqQ oa,jb]at h;have t:out.length≠n:=by
    intro e;rw[e]at hb;simp at hb
   obtain⟨u,v⟩:=qwW g k _ c' oe h;refine⟨u,fun K r hK=>?_⟩;rw[←jS,forF,hr];have j:((out.length:Int)==((n+m:Nat):Int))=false:=by
    simp only[beq_eq_false_iff_ne,ne_eq];omega
   rw[j,cond_false,qqQ oa,jb];exact v K r hK
theorem qxQ{c:qe}{r:RR3}(o:n+m≤1000000)(j:qbl fuel p c (n:Int)=some (a,l,15))(g:qbl fuel p a (m:Int)=some (d,z,h))(hR:qbO p a=some true)(t:qbl fuel p c ((n+m:Nat):Int)=some r):r=(d,l++z,h):=by
 rw[qBk]at j g t;have e:∀k:Nat,decide ((k:Int)<0)=false:=fun k=>decide_eq_false oa;rw[e,cond_false]at j g t;rw[hR,jb]at g;cases u:qbO p c with
 |none=>rw[u]at j;cases j
 |some b=>
  cases b with
  |false=>rw[u,jb]at j;cases j
  |true=>
   rw[u,jb]at j t;simp only[j5,cond_false]at j g t;obtain⟨⟨A,q⟩,x⟩:=qwW (m:=m) o fuel [] c (ju _) j;have key:∃K,forF (yH fuel p ((n+m:Nat):Int)) K (l,a)=some (d,l++z,h):=by
    rcases q with q|q
    have:=qnO q o fuel [] a (ju _) g;rw[jv]at this;exact⟨fuel,this⟩;by_cases v:l.length=n;have:=qnO v o fuel [] a (ju _) g;rw[jv]at this;exact⟨fuel,this⟩;refine⟨1,?_⟩;have hb:((l.length:Int)==((n+m:Nat):Int))=false:=by
     simp only[beq_eq_false_iff_ne,ne_eq];omega
    rw[forF,q _ _ _ hb];cases fuel with
    |zero=>cases g
    |succ f=>
     rw[forF]at g;by_cases hm:m=0;rcases rnd (f+1) p a with hr|hr|⟨e,hr⟩|hr|⟨ev,c',hr⟩
     rw[hr]at g;cases g;have:=q 1 [] (fun _=>none) od;rw[hr]at this;cases this;rw[hr,hm]at g;cases g;rw[jv];rw[hr,hm]at g;cases g;rw[jv];rw[hr,hm]at g;cases g;rw[jv];have w:((([]:List qO).length:Int)==(m:Int))=false:=by
      simp only[ji,beq_eq_false_iff_ne,ne_eq];omega
     rw[q _ _ _ w]at g;cases g;rw[jv]
   obtain⟨K,hK⟩:=key;have f1:=qkx _ _ _ (x K _ hK) (K+fuel+fuel) oa;have f2:=qkx _ _ _ t (K+fuel+fuel) oa;rw[f1]at f2;exact(Option.some.inj f2).symm
end
theorem qig{a b:ByteArray}(h:a.toList=b.toList):a=b:=by
 have c:a.data.toList=b.data.toList:=by
  rw[←Lib.toList_data,←Lib.toList_data];exact h
 cases a;cases b;simp only at c;congr
 exact jY.1 c
theorem qC7(l:List Int)(x:Int):qcv l x=some (l.contains x):=by
 unfold qcv;have:∀(l:List Int)(i:Nat),forL (β:=Unit) (fun _ b _ c=>(bif(b==x)then some true else(c ()))) (fun _=>some false) i l ()=some (l.contains x):=by
  intro l;induction l with
  |nil=>exact fun _=>rfl
  |cons y l f=>
   intro i;rw[forL,List.contains_cons];by_cases h:y=x;subst h;simp;have g:(y==x)=false:=by simpa using h
   have j:(x==y)=false:=by simpa using fun e:x=y=>h e.symm
   rw[g,j,cond_false,f];rfl
 exact this l 0
theorem qxn:∀(fuel:Nat)(l:List Int)(t:T),wt t<fuel→l.length+wt t≤1000000000000→Yl (qT fuel l t) fun r=>r=yt l (zX t)
 |0,_,_,h,_=>absurd h oa
 |fuel+1,l,t,h,hl=>by
  unfold qT;dsimp only;have hw:=qd4 t;have args:∀l',l'.length+wtL t.ar≤1000000000000→t.k=2→Yl ((qaM t).bind fun o=>forL (β:=List Int) (fun _ u c v=>((qT fuel c u).bind fun w=>v w)) (fun c=>some c) 0 o l') fun r=>r=yt l' (zy t.ar):=fun l' E C=>by
   unfold qaM;have e:(t.k==(2:Int))=true:=by simpa using C
   rw[e,cond_true,jb];refine Yl.forL (I:=fun i m=>m=yt l' (zy (t.ar.take i))) t.ar 0 l' rfl (fun i q m G hi A B=>?_) fun m A=>?_;rw[jc]at A B;subst A;have hq:=qdT (List.mem_of_getElem? hi);have j:=qiA (zy (t.ar.take i)) l';have g:=qjv (t.ar.take i);have H:=qpD hi;have J:=qkc t.ar (i+1);refine Yl.bind ((qxn fuel _ q oa oa).to fun r hr=>B r ?_);rw[hr,←qp8,jI,hi];congr 1
   simp only[Option.toList_some];have:∀a b:List T,zy (a++b)=zy a++zy b:=fun a b=>by
    induction a with
    |nil=>rfl
    |cons x a F=>simp[zy,F]
   rw[this];simp[zy];rw[jc,jF]at A;exact .ret A
  have f:∀l',t.k≠2→Yl ((qaM t).bind fun o=>forL (β:=List Int) (fun _ u c v=>((qT fuel c u).bind fun w=>v w)) (fun c=>some c) 0 o l') fun r=>r=l':=fun l' C=>by
   unfold qaM;have e:(t.k==(2:Int))=false:=by simpa using C
   rw[e,cond_false,jb];exact .ret rfl
  rw[qqI];refine Yl.ite (fun j=>?_) fun j=>?_;have j:t.k=1:=by simpa using j
  rw[qjQ j];refine Yl.bind (Yl.val (qC7 l t.i) (Yl.ite (fun g=>?_) fun g=>?_));refine Yl.bind (Yl.appO (by simp only[jg,ji];omega) ((f _ oa).to fun r hr=>?_));have g:t.i∉l:=by simpa using g
  rw[hr];exact(if_neg g).symm;refine(f _ oa).to fun r hr=>?_;have g:t.i∈l:=by simpa using g
  rw[hr];exact(if_pos g).symm;have j:t.k≠1:=by simpa using j
  rw[qfR j,T.used];by_cases g:t.k=2;rw[if_pos g];exact args l oa g;rw[if_neg g];exact f l g
theorem qpY{fuel:Nat}{l:List T}(j:wtL l<fuel)(hl:wtL l≤1000000000000):Yl (qac fuel l) fun r=>r=yt [] (zy l):=by
 unfold qac;refine Yl.forL (I:=fun i m=>m=yt [] (zy (l.take i))) l 0 [] rfl (fun i q m o hi c e=>?_) fun m c=>?_;rw[jc]at c e;subst c;have hq:=qdT (List.mem_of_getElem? hi);have f:=qiA (zy (l.take i)) [];have t:=qjv (l.take i);have u:=qpD hi;have v:=qkc l (i+1);rw[ji]at f;refine Yl.bind ((qxn fuel _ q oa oa).to fun r hr=>e r ?_);rw[hr,←qp8,jI,hi];congr 1
 simp only[Option.toList_some];have:∀a b:List T,zy (a++b)=zy a++zy b:=fun a b=>by
  induction a with
  |nil=>rfl
  |cons x a g=>simp[zy,g]
 rw[this];simp[zy];rw[jc,jF]at c;exact .ret c
structure BkR(r:qs):Prop where
 a:∀a∈zm r,wtL a.ts≤1048576
 g:∀g∈r.fu++r.fx,wtL g.ts≤1048576
 l:r.fm.length≤1048576∧r.ft.length≤1048576∧r.fu.length≤1048576∧r.fx.length≤1048576
 n:r.fy.size≤1048576
structure BkP(p:qf):Prop where
 r:∀r∈p.fe,BkR r
 d:∀d∈p.fD,d.fy.size≤1048576
 l:p.fD.length≤1048576∧p.fe.length≤1048576
theorem qqE(l:List S_api_Decl)(n:ByteArray)(k:Int):Yl (qX l n k) fun b=>b=true→(⟨n,k⟩:S_api_Decl)∈l:=by
 unfold qX;refine Yl.forL (I:=fun _ _=>True) l 0 () trivial (fun i q _ g hi _ c=>?_) fun _ _=>.ret fun h=>by cases h
 refine Yl.ite (fun e=>Yl.ite (fun f=>.ret fun _=>?_) fun _=>c () trivial) fun _=>c () trivial;have e:q.fy=n:=qig (by simpa using e);have f:q.fH=k:=by simpa using f
 have hq:=List.mem_of_getElem? hi;have:q=⟨n,k⟩:=by
  cases q;simp only at e f;rw[e,f]
 rwa [←this]
theorem qrZ(l:List S_api_Decl)(n:ByteArray)(k:Int):Yl (qaI l n k) fun e=>e=0→(⟨n,k⟩:S_api_Decl)∈l:=by
 unfold qaI;refine Yl.forL (I:=fun _ e=>e≠0) l 0 7 od (fun i q e g _ f c=>Yl.ite (fun _=>c _ od) fun _=>c _ f) fun e f=>?_;exact Yl.bind ((qqE l n k).to fun b hb=>Yl.ite (fun h=>.ret fun _=>hb h) fun _=>.ret fun h=>absurd h f)
theorem qAB(dl:List S_api_Decl)(l:List Gl):Yl (qbU dl l) fun e=>e=0→∀g∈l,g.op=0→(⟨g.n,(g.ts.length:Int)⟩:S_api_Decl)∈dl:=by
 unfold qbU;refine Yl.forL (I:=fun i _=>∀g∈l.take i,g.op=0→(⟨g.n,(g.ts.length:Int)⟩:S_api_Decl)∈dl) l 0 () (fun g b=>by cases b) (fun i q _ j hi c f=>?_) fun _ c=>?_;rw[jc]at c f;have step:(q.op=0→(⟨q.n,(q.ts.length:Int)⟩:S_api_Decl)∈dl)→Yl (j ()) fun e=>e=0→∀g∈l,g.op=0→(⟨g.n,(g.ts.length:Int)⟩:S_api_Decl)∈dl:=fun hq=>f () fun g b=>by
  rw[jI,hi]at b;rcases jl.1 b with b|b
  exact c g b;have:g=q:=by simpa using b
  rw[this];exact hq
 refine Yl.ite (fun h=>step fun e=>?_) fun _=>Yl.bind ((qrZ dl q.n _).to fun e he=>Yl.ite (fun h=>.ret fun o=>?_) fun h=>step fun _=>he (by simpa using h));rw[e]at h;cases h;rw[o]at h;cases h;rw[jc,jF]at c;exact .ret fun _=>c
theorem qpM{r:qs}(h:BkR r):qaf r=some (zm r):=by
 have:=h.l;unfold qaf;rw[qeL oe oe,jb,qeL oe oe];rfl
theorem qsX{r:qs}(h:BkR r):qat r=some (r.fu++r.fx):=by
 have:=h.l;unfold qat;rw[qeL oe oe,jb,qeL oe oe];rfl
theorem Yl.cat{α β ρ:Type}{Q:ρ→Prop}{f:α→List β}{b:Nat}{k:List β→Option ρ}{B:Nat}(l:List α)(s:List β)(hl:∀x∈l,(f x).length≤B)(hb:(s.length+l.length*B)*b≤140737488355328∧s.length+l.length*B≤9223372036854775807)(c:Yl (k (s++l.flatMap f)) Q):∀i,Yl (Go.Proofs.YtgcegilpajfdhaaGreat.forL (fun _ q m g=>(Go.Proofs.YtgcegilpajfdhaaGreat.appO b m (f q)).bind fun z=>g z) k i l s) Q:=by
 induction l generalizing s with
 |nil=>
  intro i;rw[Go.Proofs.YtgcegilpajfdhaaGreat.forL];simpa using c
 |cons x l j=>
  intro i;rw[Go.Proofs.YtgcegilpajfdhaaGreat.forL];have o:=hl x (je ..);have e:(x::l).length*B=l.length*B+B:=by rw[jg,Ji]
  rw[e]at hb;have r:(s.length+(f x).length)*b≤(s.length+(l.length*B+B))*b:=jH _ oa;have t:((s++f x).length+l.length*B)*b≤(s.length+(l.length*B+B))*b:=jH _ (by rw[ja];omega);refine Yl.bind (Yl.appO ⟨by omega,by omega⟩ (j (s++f x) (fun y hy=>hl y (jp _ hy)) ⟨by omega,by rw[ja];omega⟩ ?_ (i+1)));rw[jo];simpa using c
theorem qlu{α:Type}{f:α→List T}{B:Nat}:∀{l:List α},(∀x∈l,wtL (f x)≤B)→wtL (l.flatMap f)≤l.length*B
 |[],_=>ju _
 |x::l,h=>by
  have b:=h x (je ..);have c:=qlu (l:=l) fun y hy=>h y (jp _ hy);rw[vl,qkL,jg,Ji];omega
theorem qur(op:Int):qbn op=some (decide (5≤op∧op≤12)):=by
 unfold qbn;by_cases h:op≥5;rw[decide_eq_true h,cond_true];congr 1
 rw[jP,decide_eq_true_iff,decide_eq_true_iff];exact⟨fun b=>⟨h,b⟩,fun h=>h.2⟩;rw[decide_eq_false h,cond_false];congr 1
 exact(decide_eq_false fun b=>h b.1).symm
theorem qvu{fuel:Nat}{r:qs}(h:BkR r)(hl:(zm r).length≤4)(e:1000000000<fuel):Yl (qbi fuel r) fun _=>True:=by
 unfold qbi;refine Yl.bind (Yl.val (qpM h) ?_);have c:∀a∈zm r,a.ts.length≤1048576:=fun a c=>by have:=h.a a c;have:=qks a.ts;omega
 refine Yl.cat (f:=fun a:At=>a.ts) (b:=56) (B:=1048576) (zm r) [] c ⟨by simp only[ji];omega,by simp only[ji];omega⟩ ?_ 0;have:=qlu (f:=fun a:At=>a.ts) (B:=1048576) (l:=zm r) h.a;rw[jq];exact Yl.bind ((qpY oa oa).to fun _ _=>.ret trivial)
theorem qCw(l:List Int)(x:Int):Yl (qcR l x) fun _=>True:=by
 unfold qcR;exact Yl.forL (I:=fun _ _=>True) l 0 () trivial (fun _ _ _ _ _ _ b=>Yl.ite (fun _=>.ret trivial) fun _=>b () trivial) fun _ _=>.ret trivial
theorem qnz{fuel:Nat}{g:Gl}(b:wtL g.ts≤1048576)(c:1000000000<fuel):Yl (qav fuel g) fun r=>r=yt [] (zy g.ts):=by
 unfold qav;exact Yl.bind ((qpY oa oa).to fun _ h=>.ret h)
theorem qwT{fuel:Nat}{dl:List S_api_Decl}{r:qs}(h:BkR r)(hl:(zm r).length≤4)(w:1000000000<fuel):Yl (qah fuel dl r) fun e=>e=0→(∀g∈r.fu++r.fx,g.op=0→(⟨g.n,(g.ts.length:Int)⟩:S_api_Decl)∈dl)∧∀g∈r.fx,¬(5≤g.op∧g.op≤12):=by
 unfold qah;have no:∀{e:Int}{P:Prop},e≠0→Yl (some e) fun e=>e=0→P:=fun he=>.ret fun h=>absurd h he;refine Yl.bind (Yl.val (qpM h) ?_);refine Yl.forL (I:=fun _ _=>True) _ 0 () trivial (fun i q _ u hi _ b=>?_) fun _ _=>?_;exact Yl.bind ((qrZ dl q.n _).to fun e he=>Yl.ite (fun h=>no (by simpa using h)) fun _=>b () trivial);refine Yl.bind (Yl.val (qsX h) (Yl.bind ((qAB dl _).to fun e he=>Yl.ite (fun h=>no (by simpa using h)) fun x=>?_)));have c:=he (by simpa using x);refine Yl.forL (I:=fun _ _=>True) _ 0 () trivial (fun i q _ u hi _ b=>?_) fun _ _=>?_;exact Yl.bind (Yl.val (qur _) (Yl.ite (fun _=>Yl.ite (fun _=>no od) fun _=>b () trivial) fun _=>b () trivial));refine Yl.forL (I:=fun i _=>∀g∈r.fx.take i,¬(5≤g.op∧g.op≤12)) r.fx 0 () (fun g f=>by cases f) (fun i q _ u hi o b=>?_) fun _ o=>?_;rw[jc]at o b;refine Yl.bind (Yl.val (qur _) (Yl.ite (fun _=>no od) fun A=>b () fun g f=>?_));rw[jI,hi]at f;rcases jl.1 f with f|f
 exact o g f;have:g=q:=by simpa using f
 rw[this];exact of_decide_eq_false A;rw[jc,jF]at o;refine Yl.bind ((qvu h hl w).to fun B _=>?_);refine Yl.forL (I:=fun _ _=>True) r.fu 0 () trivial (fun i q _ u hi _ b=>?_) fun _ _=>.ret fun _=>⟨c,o⟩
 refine Yl.bind ((qnz (h.g q (jz _ (List.mem_of_getElem? hi))) w).to fun C _=>?_);refine Yl.forL (I:=fun _ _=>True) C 0 () trivial (fun j v _ E _ _ t=>?_) fun _ _=>b () trivial;exact Yl.bind ((qCw B v).to fun _ _=>Yl.ite (fun _=>no od) fun _=>t () trivial)
theorem qfQ{s:ByteArray}(h:zR s=true):s.size≤40:=by
 unfold zR at h;simp only[jk]at h;exact(qgY h.1.1).2.1
theorem qpR{fuel:Nat}{p:qf}{r:qs}(h:BkR r)(U:1000000000<fuel):Yl (qa3 fuel p.fD r) fun e=>e=0→zcB p r:=by
 unfold qa3;have no:∀{e:Int}{P:Prop},e≠0→Yl (some e) fun e=>e=0→P:=fun he=>.ret fun h=>absurd h he;have V:(zm r).length=r.fm.length+r.ft.length:=by unfold zm;rw[ja]
 have hb:=h.l;refine Yl.bind (Yl.val (qpM h) (Yl.bind (Yl.val (qsX h) ?_)));refine Yl.ite (fun _=>no od) fun K=>Yl.ite (fun _=>no od) fun M=>Yl.ite (fun _=>no od) fun N=>Yl.ite (fun _=>no od) fun O=>?_;have K:(zm r).length≠0:=by
  intro e;rw[e]at K;cases K
 have M:=of_decide_eq_false M;have N:=of_decide_eq_false N;have O:=of_decide_eq_false O;refine Yl.forL (I:=fun i _=>∀a∈(zm r).take i,zn a=true) _ 0 () (fun a c=>by cases c) (fun i q _ Q hi x j=>?_) fun _ E=>?_;rw[jc]at x j;have hq:=List.mem_of_getElem? hi;refine Yl.bind (Yl.val (if_pos (by have:=h.a q hq;omega)) (Yl.ite (fun _=>no od) fun A=>j () fun a c=>?_));rw[jI,hi]at c;rcases jl.1 c with c|c
 exact x a c;have:a=q:=by simpa using c
 rw[this];simpa using A;rw[jc,jF]at E;refine Yl.forL (I:=fun i _=>∀g∈(r.fu++r.fx).take i,zu g=true) _ 0 () (fun a c=>by cases c) (fun i q _ Q hi x j=>?_) fun _ F=>?_;rw[jc]at x j;have hq:=List.mem_of_getElem? hi;refine Yl.bind (Yl.val (if_pos (by have:=h.g q hq;omega)) (Yl.ite (fun _=>no od) fun A=>j () fun a c=>?_));rw[jI,hi]at c;rcases jl.1 c with c|c
 exact x a c;have:a=q:=by simpa using c
 rw[this];simpa using A;rw[jc,jF]at F;have W:Yl (qch fuel r) fun C=>C.length≤200*(r.fm.length+r.ft.length+r.fu.length+r.fx.length)∧∀g∈r.fx,∀v∈zy g.ts,v∈C:=by
  unfold qch;refine Yl.bind (Yl.val (qpM h) ?_);have c:∀a∈zm r,a.ts.length≤200:=fun a c=>by have:=qgG (E a c);have:=qks a.ts;omega
  refine Yl.cat (f:=fun a:At=>a.ts) (b:=56) (B:=200) (zm r) [] c ⟨by simp only[ji];omega,by simp only[ji];omega⟩ ?_ 0;rw[jq];refine Yl.bind (Yl.val (qsX h) ?_);have o:∀g∈r.fu++r.fx,g.ts.length≤200:=fun g o=>by have:=(qdC (F g o)).2;have:=qks g.ts;omega
  have X:(r.fu++r.fx).length≤24:=by rw[ja];omega
  have H:((zm r).flatMap fun a:At=>a.ts).length≤800:=by
   have:=qlu (f:=fun a:At=>a.ts) (B:=200) (l:=zm r) fun a c=>qgG (E a c);have:=qks ((zm r).flatMap fun a:At=>a.ts);omega
  refine Yl.cat (f:=fun g:Gl=>g.ts) (b:=56) (B:=200) _ _ o ⟨by omega,by omega⟩ ?_ 0;have w1:=qlu (f:=fun a:At=>a.ts) (B:=200) (l:=zm r) fun a c=>qgG (E a c);have Y:=qlu (f:=fun g:Gl=>g.ts) (B:=200) (l:=r.fu++r.fx) fun g o=>(qdC (F g o)).2;refine Yl.bind ((qpY (by rw[qkL];omega) (by rw[qkL];omega)).to fun C u=>.ret ⟨?_,fun g o v w=>?_⟩);rw[u];have:=qiA (zy ((zm r).flatMap (fun a:At=>a.ts)++(r.fu++r.fx).flatMap fun g:Gl=>g.ts)) [];have:=qjv ((zm r).flatMap (fun a:At=>a.ts)++(r.fu++r.fx).flatMap fun g:Gl=>g.ts);rw[qkL]at this;rw[ji]at*;rw[ja]at Y;omega;rw[u];refine qfY.2 (.inr ?_);obtain⟨t,Z,w⟩:=qfZ.1 w;exact qfZ.2 ⟨t,jB _ (JR.2 ⟨g,jB _ o,Z⟩),w⟩
 refine Yl.bind (W.to fun C u=>?_);obtain⟨hvl,u⟩:=u;refine Yl.forL (I:=fun i _=>∀v∈C.take i,v<(i:Int)) C 0 () (fun a c=>by cases c) (fun i q _ Q hi x j=>?_) fun _ R=>?_;rw[jc]at x j⊢;refine Yl.ite (fun _=>no od) fun A=>j () fun v w=>?_;rw[jI,hi]at w;rcases jl.1 w with w|w
 have:=x v w;omega;have J:v=q:=by simpa using w
 have S:q=(i:Int):=by simpa using A
 omega;rw[jc,jF]at R;refine Yl.ite (fun _=>no od) fun A=>?_;have A:r.fF=(C.length:Int):=by simpa using A
 have fin:r.fy.size≤40→Yl ((qah fuel p.fD r).bind fun G=>some G) fun e=>e=0→zcB p r:=fun L=>by
  refine Yl.bind ((qwT h oa U).to fun e he=>.ret fun H=>?_);obtain⟨m1,m2⟩:=he H;refine⟨⟨by omega,by omega⟩,⟨by omega,by omega⟩,E,F,fun g o v w=>?_,⟨by omega,by omega⟩,fun g o=>⟨?_,m1 g (jB _ o)⟩,L,by omega⟩;have:=R v (u g o v w);omega;by_cases H:g.op=0;omega;have hl:=qh4 (F g (jB _ o)) H;have:=m2 g o;have c:0≤zO g.op:=by omega
  unfold zO at c;split at c
  omega;split at c
  omega;split at c<;>omega
 refine Yl.ite (fun J=>?_) fun J=>fin ?_;refine Yl.bind (Yl.val (if_pos (by have:=h.n;omega)) (Yl.ite (fun _=>no od) fun S=>fin (qfQ (by simpa using S))));rw[qe5]at J;have:r.fy.toList=[]:=by simpa using J
 have e:r.fy=⟨#[]⟩:=qig (by rw[this,qe5]);rw[e];decide
theorem qwL{fuel:Nat}{p:qf}(h:BkP p)(t:1000000000<fuel):Yl (qbV fuel p) fun e=>e.2=0→zbV p:=by
 unfold qbV;have no:∀{e:Int×Int}{P:Prop},e.2≠0→Yl (some e) fun e=>e.2=0→P:=fun he=>.ret fun h=>absurd h he;refine Yl.ite (fun _=>no od) fun j=>?_;have j:=of_decide_eq_false j;refine Yl.forL (I:=fun i _=>∀d∈p.fD.take i,d.fy.size≤40∧0≤d.fH∧d.fH≤6) p.fD 0 () (fun d hd=>by cases hd) (fun i q _ u hi c b=>?_) fun _ o=>?_;rw[jc]at c b⊢;have hq:=List.mem_of_getElem? hi;have v:=(jd.1 hi).1;refine Yl.bind (Yl.val (if_pos (by have:=h.d q hq;omega)) (Yl.ite (fun _=>no od) fun f=>Yl.ite (fun _=>no od) fun g=>Yl.ite (fun _=>no od) fun w=>?_));refine Yl.bind (Yl.subO ⟨by omega,by omega,by omega⟩ (Yl.bind ((qqE _ _ _).to fun _ _=>Yl.ite (fun _=>no od) fun _=>b () fun d hd=>?_)));rw[jI,hi]at hd;rcases jl.1 hd with hd|hd
 exact c d hd;have:d=q:=by simpa using hd
 rw[this];have:=of_decide_eq_false g;have:=of_decide_eq_false w;exact⟨qfQ (by simpa using f),by omega,by omega⟩;rw[jc,jF]at o;refine Yl.ite (fun _=>no od) fun f=>?_;have f:=of_decide_eq_false f;refine Yl.forL (I:=fun i _=>∀r∈p.fe.take i,zcB p r) p.fe 0 () (fun d hd=>by cases hd) (fun i q _ u hi c b=>?_) fun _ hR=>?_;rw[jc]at c b;have hq:=List.mem_of_getElem? hi;refine Yl.bind ((qpR (h.r q hq) t).to fun e he=>Yl.ite (fun x=>no (by simpa using x)) fun g=>b () fun r hr=>?_);rw[jI,hi]at hr;rcases jl.1 hr with hr|hr
 exact c r hr;have:r=q:=by simpa using hr
 rw[this];exact he (by simpa using g);rw[jc,jF]at hR;exact .ret fun _=>⟨by omega,o,by omega,hR⟩
theorem qAV:∀(n:Nat)(l:List T),wtL l≤n→zC l≤wtL l
 |n,[],_=>jf _
 |0,t::l,h=>by
  have:=qd4 t;simp only[wtL]at h;omega
 |n+1,t::l,h=>by
  have hw:=qd4 t;simp only[wtL]at h⊢;simp only[zC];have b:=qAV n l oa;have c:z8 t≤wt t:=by
   rw[qf2,T.used];split
   have:=qAV n t.ar oa;omega;rw[zC];omega
  omega
theorem qCz(t:T):z8 t≤wt t:=by
 have:=qAV _ [t] (jf _);simpa[zC,wtL]using this
theorem qzt(l:List T)(h:wtL l≤1048576):Yl (qbm l) fun _=>True:=by
 unfold qbm;refine Yl.ite (fun _=>.ret trivial) fun _=>?_;refine Yl.forL (I:=fun _ n=>0≤n∧n≤60) l 0 0 ⟨by decide,by decide⟩ (fun i q n e hi f b=>?_) fun _ _=>.ret trivial;have hq:=qdT (List.mem_of_getElem? hi);have hs:=qCz q;refine Yl.bind (Yl.val (if_pos oa) ?_);rw[qex oa];refine Yl.ite (fun _=>.ret trivial) fun c=>b _ ?_;have c:=of_decide_eq_false c;omega
theorem qr3(l:List At)(h:∀a∈l,wtL a.ts≤1048576):Yl (qa9 l) fun _=>True:=by
 unfold qa9;exact Yl.forL (I:=fun _ _=>True) l 0 () trivial (fun i q _ c hi _ b=>Yl.bind ((qzt _ (h q (List.mem_of_getElem? hi))).to fun _ _=>Yl.ite (fun _=>.ret trivial) fun _=>b () trivial)) fun _ _=>.ret trivial
theorem qnI(l:List Gl)(n:Int)(h:∀a∈l,wtL a.ts≤1048576):Yl (qas l n) fun b=>b=true→(l.length:Int)≤n:=by
 unfold qas;refine Yl.ite (fun _=>.ret fun h=>by cases h) fun e=>?_;have e:=of_decide_eq_false e;exact Yl.forL (I:=fun _ _=>True) l 0 () trivial (fun i q _ f hi _ c=>Yl.bind ((qzt _ (h q (List.mem_of_getElem? hi))).to fun _ _=>Yl.ite (fun _=>.ret fun h=>by cases h) fun _=>c () trivial)) fun _ _=>.ret fun _=>by omega
theorem qr4{p:qf}(w:BkP p):Yl (qbj p) fun b=>b=true→p.fe.length≤8∧(∀r∈p.fe,(zm r).length≤6)∧∀r∈p.fe,r.fu.length≤6∧r.fx.length≤6:=by
 unfold qbj;refine Yl.ite (fun _=>.ret fun h=>by cases h) fun _=>Yl.ite (fun _=>.ret fun h=>by cases h) fun j=>?_;have j:=of_decide_eq_false j;have no:∀{P:Prop},Yl (some false) fun b=>b=true→P:=.ret fun h=>by cases h
 refine Yl.forL (I:=fun i _=>∀r∈p.fe.take i,(zm r).length≤6∧r.fu.length≤6∧r.fx.length≤6) p.fe 0 () (fun r hr=>by cases hr) (fun i q _ x hi e f=>?_) fun _ e=>?_;rw[jc]at e f;have hq:=w.r q (List.mem_of_getElem? hi);refine Yl.ite (fun _=>no) fun o=>Yl.ite (fun _=>no) fun t=>Yl.ite (fun _=>no) fun _=>Yl.ite (fun _=>no) fun u=>Yl.ite (fun _=>no) fun v=>?_;refine Yl.bind ((qr3 _ fun a c=>hq.a a (jz _ c)).to fun _ _=>Yl.ite (fun _=>no) fun _=>?_);refine Yl.bind ((qr3 _ fun a c=>hq.a a (jB _ c)).to fun _ _=>Yl.ite (fun _=>no) fun _=>?_);refine Yl.bind ((qnI _ _ fun a c=>hq.g a (jz _ c)).to fun _ _=>Yl.ite (fun _=>no) fun _=>?_);refine Yl.bind ((qnI _ _ fun a c=>hq.g a (jB _ c)).to fun _ _=>Yl.ite (fun _=>no) fun _=>f () fun r hr=>?_);rw[jI,hi]at hr;rcases jl.1 hr with hr|hr
 exact e r hr;have:r=q:=by simpa using hr
 rw[this];have o:=of_decide_eq_false o;have t:=of_decide_eq_false t;have u:=of_decide_eq_false u;have v:=of_decide_eq_false v;unfold zm;rw[ja];omega;rw[jc,jF]at e;exact .ret fun _=>⟨by omega,fun r hr=>(e r hr).1,fun r hr=>(e r hr).2⟩
theorem qw8{p:qf}(h:p.fe.length≤8∧∀r∈p.fe,(zm r).length≤6):OcB p:=by
 refine⟨?_,fun r hr=>by have:=h.2 r hr;omega⟩;have key:∀(l:List qs)(i:Nat),(∀r∈l,(zm r).length≤6)→(((l.zipIdx i).map fun x=>zcd x.2 x.1).flatten).length≤6*l.length:=by
  intro l;induction l with
  |nil=>exact fun _ _=>ju _
  |cons x l c=>
   intro i b;rw[JQ,jm,vM,ja];have f:=c (i+1) fun r hr=>b r (jp _ hr);have e:(zcd i x).length≤6:=by
    unfold zcd;rw[List.length_reverse,jh,List.length_zipIdx];exact b x (je ..)
   rw[jg];dsimp only at e⊢;omega
 have:=key p.fe 0 h.2;unfold yD;omega
def c0(goals:List Gl)(vars:Int):qe:=⟨goals.reverse.map frY,[],[],[],1,zap vars 0,false⟩
theorem qAp(goals:List Gl)(vars:Int)(h:goals.length≤1000):qdW goals vars=some (c0 goals vars):=by
 unfold qdW;rw[show qgA [] goals=some ([]++goals.reverse.map frY)from if_pos oe];rfl
theorem qCW{goals:List Gl}{vars:Int}(h:∀g∈goals,wtL g.ts≤1048576):BgC (c0 goals vars):=⟨(fun x b=>by cases b),(fun x b=>by cases b),(by show 0<1000000000;omega),fun f c=>by
 obtain⟨g,e,rfl⟩:=jt.1 c;have:=h g (JM.1 e);show wtL g.ts≤_;omega⟩
theorem qAY{p:qf}(h:zbV p):Yl (qct p) fun _=>True:=by
 unfold qct;have hl:=h.rl;refine Yl.forL (I:=fun i out=>out.length≤4*i) p.fe 0 [] (ju _) (fun i q out t hi e b=>?_) fun _ _=>.ret trivial;rw[jc]at e b;have f:=(jd.1 hi).1;have hr:=(h.ru q (List.mem_of_getElem? hi)).hd;rw[qex (n:=(q.fm.length:Int)+(q.ft.length:Int)) oa,qex oa];refine Yl.bind (Yl.val (show zaN _=some (q.fm.length+q.ft.length)from ?_) ?_);unfold zaN;rw[if_pos oa];congr 1
 omega;refine Yl.forD (I:=fun k o=>o.length+k≤out.length+(q.fm.length+q.ft.length)) _ out (jf _) (fun j s g u r c=>?_) fun s hs=>b s oa;exact Yl.bind (Yl.appO (by simp only[jg,ji];omega) (c _ oe))
theorem qyC{fuel:Nat}{p:qf}{goals:List Gl}{vars:Int}(v:BkP p)(w:∀g∈goals,wtL g.ts≤1048576)(t:1000000000<fuel):Yl (qbW fuel p (c0 goals vars)) fun b=>b=true→zbV p:=by
 unfold qbW;have no:∀{P:Prop},Yl (some false) fun b=>b=true→P:=.ret fun h=>by cases h
 refine Yl.bind ((qwL v t).to fun e he=>Yl.ite (fun _=>no) fun x=>?_);have u:=he (by simpa using x);refine Yl.ite (fun _=>no) fun _=>?_;have f:Yl (qbH fuel p [] [] [] 1 (zap vars 0)) fun _=>True:=by
  unfold qbH;refine Yl.bind (Yl.val (show qcX []=some true from rfl) (Yl.ite (fun _=>.ret trivial) fun _=>?_));refine Yl.bind (Yl.val (show qcT fuel []=some true from rfl) (Yl.ite (fun _=>.ret trivial) fun _=>?_));refine Yl.bind (Yl.val (show qcW []=some true from rfl) (Yl.ite (fun _=>.ret trivial) fun _=>?_));exact Yl.ite (fun _=>.ret trivial) fun _=>Yl.ite (fun _=>.ret trivial) fun _=>Yl.ite (fun _=>.ret trivial) fun _=>Yl.ite (fun _=>.ret trivial) fun _=>.ret trivial
 refine Yl.bind (f.to fun _ _=>Yl.ite (fun _=>no) fun _=>Yl.bind ((qAY u).to fun oc _=>?_));refine Yl.forL (I:=fun _ _=>True) (goals.reverse.map frY) 0 () trivial (fun i q _ B hi _ c=>?_) fun _ _=>.ret fun _=>u;obtain⟨g,j,rfl⟩:=jt.1 (List.mem_of_getElem? hi);have hw:=w g (JM.1 j);show Yl (bif true then bif false then _ else _ else _) _;rw[cond_true,cond_false];have o:Yl (qbT p g) fun _=>True:=by
  unfold qbT;exact Yl.bind (Yl.val (if_pos oa) (Yl.ite (fun _=>.ret trivial) fun _=>Yl.ite (fun _=>.ret trivial) fun _=>Yl.ite (fun _=>.ret trivial) fun _=>Yl.bind ((qqE _ _ _).to fun _ _=>.ret trivial)))
 have r:Yl (qb5 fuel g (zap vars 0) []) fun _=>True:=by
  unfold qb5 qbq;refine Yl.bind ((qnz hw t).to fun A _=>Yl.bind (Yl.to (Q':=fun _=>True) ?_ fun _ _=>.ret trivial));exact Yl.forL (I:=fun _ _=>True) A 0 () trivial (fun _ _ _ _ _ _ c=>Yl.ite (fun _=>.ret trivial) fun _=>Yl.bind (Yl.val (show qbK [] _=some _ from rfl) (c () trivial))) fun _ _=>.ret trivial
 exact Yl.bind (o.to fun _ _=>Yl.ite (fun _=>no) fun _=>Yl.bind (r.to fun _ _=>Yl.ite (fun _=>no) fun _=>c () trivial))
theorem Yl.two{α ρ:Type}{Q:ρ→Prop}{body:α→(Unit→Option ρ)→Option ρ}{k:Unit→Option ρ}(x y:α)(hb:∀z,(z=x∨z=y)→∀b:Unit→Option ρ,Yl (b ()) Q→Yl (body z b) Q)(c:Yl (k ()) Q):Yl (Go.Proofs.YtgcegilpajfdhaaGreat.forC (fun t _ b=>(Go.Proofs.YtgcegilpajfdhaaGreat.getI [x,y] t).bind fun q=>body q b) k (2-0:Int).toNat 0 ()) Q:=by
 show Yl (Go.Proofs.YtgcegilpajfdhaaGreat.forC _ k 2 0 ()) Q;rw[Go.Proofs.YtgcegilpajfdhaaGreat.forC];refine Yl.bind (Yl.val (show Go.Proofs.YtgcegilpajfdhaaGreat.getI [x,y] 0=some x from rfl) (hb x (.inl rfl) _ ?_));rw[Go.Proofs.YtgcegilpajfdhaaGreat.forC];refine Yl.bind (Yl.val (show Go.Proofs.YtgcegilpajfdhaaGreat.getI [x,y] (0+1)=some y from rfl) (hb y (.inr rfl) _ ?_));rw[Go.Proofs.YtgcegilpajfdhaaGreat.forC];exact c
theorem Yl.thr{α ρ:Type}{Q:ρ→Prop}{body:Nat→α→Unit→(Unit→Option ρ)→Option ρ}{k:Unit→Option ρ}(l:List α)(hb:∀(i:Nat)(q:α)(b:Unit→Option ρ),q∈l→Yl (b ()) Q→Yl (body i q () b) Q)(e:Yl (k ()) Q):Yl (Go.Proofs.YtgcegilpajfdhaaGreat.forL body k 0 l ()) Q:=
 Yl.forL (I:=fun _ _=>True) l 0 () trivial (fun _ q _ b f _ c=>hb _ q b (List.mem_of_getElem? f) (c () trivial)) fun _ _=>e
abbrev Any3:Int⊕Unit→Prop:=fun _=>True
theorem qfg{b:Bool}{e:Int}{f:Unit→Option (Int⊕Unit)}(h:Yl (f ()) Any3):Yl (bindX (qI b e) f) Any3:=by
 unfold qI;cases b with
 |true=>exact h
 |false=>exact⟨_,rfl,trivial⟩
theorem qoX(l:List (List At))(q:l.length≤2)(hl:∀m∈l,m.length≤1048576∧∀a∈m,wtL a.ts≤1048576):Yl (qc2 l) fun r=>r.length≤2199023255552:=by
 unfold qc2;obtain⟨B,t⟩:∃B:Nat,B=1048576:=⟨_,rfl⟩
 obtain⟨C,v⟩:∃C:Nat,C=1099511627776:=⟨_,rfl⟩
 refine Yl.forL (I:=fun i out=>out.length≤i*C) l 0 [] (ju _) (fun i m out M hi c e=>?_) fun out c=>.ret ?_;rw[jc]at c e;have w:=(jd.1 hi).1;obtain⟨m1,x⟩:=hl m (List.mem_of_getElem? hi);have g:i≤1:=by omega
 have A:i*C≤1099511627776:=by
  have:=jH C g;omega
 refine Yl.forL (I:=fun j o=>o.length≤i*C+j*B) m 0 out (by rw[Nat.zero_mul];exact c) (fun j a o E u f b=>?_) fun o f=>e o ?_;rw[jc]at f b;have F:=(jd.1 u).1;have N:=x a (List.mem_of_getElem? u);have G:=qiA (zy a.ts) [];have q:=qjv a.ts;rw[ji]at G;have H:j*B≤1099511627776:=by
  have J:j≤1048576:=by omega
  have:=jH B J;rw[t]at this⊢;omega
 have K:(j+1)*B=j*B+B:=Ji ..;exact Yl.bind (Yl.val (if_pos oa) (Yl.bind (Yl.appO oa (b _ (by rw[ja];omega)))));have L:=jH B m1;rw[jc]at f;rw[Ji];rw[t]at L f;omega;rw[jc]at c;have:=jH C q;rw[v]at this c;omega
theorem qoR(l:List (List Gl))(q:l.length≤2)(hl:∀m∈l,m.length≤1048576∧∀a∈m,wtL a.ts≤1048576):Yl (qbX l) fun r=>r.length≤2199023255552:=by
 unfold qbX;obtain⟨B,t⟩:∃B:Nat,B=1048576:=⟨_,rfl⟩
 obtain⟨C,v⟩:∃C:Nat,C=1099511627776:=⟨_,rfl⟩
 refine Yl.forL (I:=fun i out=>out.length≤i*C) l 0 [] (ju _) (fun i m out M hi c e=>?_) fun out c=>.ret ?_;rw[jc]at c e;have w:=(jd.1 hi).1;obtain⟨m1,x⟩:=hl m (List.mem_of_getElem? hi);have g:i≤1:=by omega
 have A:i*C≤1099511627776:=by
  have:=jH C g;omega
 refine Yl.forL (I:=fun j o=>o.length≤i*C+j*B) m 0 out (by rw[Nat.zero_mul];exact c) (fun j a o E u f b=>?_) fun o f=>e o ?_;rw[jc]at f b;have F:=(jd.1 u).1;have N:=x a (List.mem_of_getElem? u);have G:=qiA (zy a.ts) [];have q:=qjv a.ts;rw[ji]at G;have H:j*B≤1099511627776:=by
  have J:j≤1048576:=by omega
  have:=jH B J;rw[t]at this⊢;omega
 have K:(j+1)*B=j*B+B:=Ji ..;exact Yl.bind (Yl.val (if_pos oa) (Yl.bind (Yl.appO oa (b _ (by rw[ja];omega)))));have L:=jH B m1;rw[jc]at f;rw[Ji];rw[t]at L f;omega;rw[jc]at c;have:=jH C q;rw[v]at this c;omega
theorem qoe{dl:List S_api_Decl}{n:ByteArray}{k:Int}{f:Unit→Option (Int⊕Unit)}(h:Yl (f ()) Any3):Yl (bindX (qbZ dl n k) f) Any3:=by
 unfold qbZ qcA qdQ;rw[qf5 (fun q=>qen q n) (fun q=>q.fy.toList==n.toList) dl (fun _ _=>rfl) fun _ _ _=>rfl];rw[jb,jb];unfold qI;cases decide (ixF (fun q:S_api_Decl=>q.fy.toList==n.toList) dl≥0)with
 |false=>exact⟨_,rfl,trivial⟩
 |true=>
  show Yl (bindX (bindX (some (.inr ())) fun b=>_) f) Any3;rw[show∀g:Unit→Option (Int⊕Unit),bindX (some (Sum.inr ())) g=g ()from fun _=>rfl,qlQ,jb];cases decide ((⟨n,k⟩:S_api_Decl)∈dl)with
  |false=>exact⟨_,rfl,trivial⟩
  |true=>exact h
theorem qum{dl:List S_api_Decl}{l:List Gl}{f:Unit→Option (Int⊕Unit)}(h:Yl (f ()) Any3):Yl (bindX (qbA dl l) f) Any3:=by
 have:Yl (qbA dl l) Any3:=by
  unfold qbA;exact Yl.thr l (fun _ q e _ b=>Yl.ite (fun _=>qoe b) fun _=>b) (.ret trivial)
 refine Yl.bindX (this.to fun r _=>?_);cases r with
 |inl c=>trivial
 |inr a=>exact h
theorem qzK(op:Int):Yl (qcC op) fun _=>True:=by
 unfold qcC;exact Yl.ite (fun _=>.ret trivial) fun _=>.ret trivial
theorem qsy{r:qs}(h:BkR r)(dl:List S_api_Decl):Yl (qc5 r dl) Any3:=by
 unfold qc5;have hl:=h.l;have L:∀m∈[r.fm,r.ft],m.length≤1048576∧∀a∈m,wtL a.ts≤1048576:=fun m hm=>by
  simp only[jx,List.not_mem_nil,or_false]at hm;rcases hm with rfl|rfl
  exact⟨hl.1,fun a u=>h.a a (jz _ u)⟩;exact⟨hl.2.1,fun a u=>h.a a (jB _ u)⟩
 have M:∀m∈[r.fu,r.fx],m.length≤1048576∧∀a∈m,wtL a.ts≤1048576:=fun m hm=>by
  simp only[jx,List.not_mem_nil,or_false]at hm;rcases hm with rfl|rfl
  exact⟨hl.2.2.1,fun a u=>h.g a (jz _ u)⟩;exact⟨hl.2.2.2,fun a u=>h.g a (jB _ u)⟩
 have N:∀z,(z=r.fm∨z=r.ft)→∀a∈z,wtL a.ts≤1048576:=fun z j=>(L z (by rcases j with rfl|rfl<;>simp)).2;have O:∀z,(z=r.fu∨z=r.fx)→∀a∈z,wtL a.ts≤1048576:=fun z j=>(M z (by rcases j with rfl|rfl<;>simp)).2;refine Yl.jn (J:=fun _=>True) (fun kk f=>?_) fun _ _=>?_;exact Yl.ite (fun _=>Yl.ite (fun _=>Yl.ite (fun _=>qfg (f () trivial)) fun _=>qfg (f () trivial)) fun _=>qfg (f () trivial)) fun _=>qfg (f () trivial);refine Yl.two _ _ (fun z j v b=>Yl.thr z (fun _ q w hq c=>Yl.bind (Yl.val (if_pos (by have:=N z j q hq;omega)) (qfg c))) b) ?_;refine Yl.two _ _ (fun z j v b=>Yl.thr z (fun _ q w hq c=>Yl.bind (Yl.val (if_pos (by have:=O z j q hq;omega)) (qfg c))) b) ?_;refine Yl.bind ((qoX _ og L).to fun v1 h1=>Yl.bind ((qoR _ og M).to fun v2 h2=>Yl.bind (Yl.appO oa ?_)));refine Yl.forL (I:=fun _ _=>True) _ 0 0 trivial (fun _ q n v _ _ b=>qfg (Yl.ite (fun _=>b _ trivial) fun _=>b _ trivial)) fun n _=>qfg ?_;have rest:Yl (forC (β:=Unit) (fun e _ P=>
  ((getI [r.fm,r.ft] e).bind fun x=>
  (forL (β:=Unit) (fun _ o _ Q=>
  (bindX (qbZ dl o.n (o.ts.length:Int)) fun U=>
  (Q ()))) (fun _=>
  (P ())) 0 x ()))) (fun _=>
  (bindX (qbA dl r.fu) fun V=>
  (bindX (qbA dl r.fx) fun W=>
  (forL (β:=Unit) (fun _ t _ A=>
  ((qcC t.op).bind fun B=>
  (bif B then
  (bindX (qI true 10) fun X=>
  (A ()))
  else
  (bindX (qI (t.op==(1:Int)) 10) fun Y=>
  (A ()))))) (fun _=>
  (forL (β:=Unit) (fun _ C _ R=>
  ((qcC C.op).bind fun E=>
  (bindX (qI (!E) 10) fun Z=>
  (R ())))) (fun _=>
  ((qd7 [r.fm,r.ft]).bind fun F=>
  ((qbX [r.fu]).bind fun G=>
  (forL (β:=Unit) (fun _ H _ S=>
  ((qK F H).bind fun K=>
  (bindX (qI K 17) fun r_27=>
  (S ())))) (fun _=>
  some (.inr ())) 0 G ())))) 0 r.fx ())) 0 r.fu ())))) (2-0:Int).toNat 0 ()) Any3:=by
  refine Yl.two _ _ (fun z j v b=>Yl.thr z (fun _ q w hq c=>qoe c) b) ?_;refine qum (qum ?_);refine Yl.thr _ (fun _ q v hq b=>Yl.bind ((qzK q.op).to fun _ _=>Yl.ite (fun _=>qfg b) fun _=>qfg b)) ?_;refine Yl.thr _ (fun _ q v hq b=>Yl.bind ((qzK q.op).to fun _ _=>qfg b)) ?_;refine Yl.bind ((qoX _ og L).to fun v1 _=>Yl.bind ((qoR [r.fu] og fun m hm=>M m (by simp at hm;simp[hm])).to fun v2 _=>?_));exact Yl.thr _ (fun _ q v hq b=>Yl.bind (Yl.val (qot _ _) (qfg b))) (.ret trivial)
 exact Yl.ite (fun _=>qfg rest) fun _=>Yl.bind (Yl.val (if_pos trivial) (qfg rest))
theorem qrt{p:qf}(h:BkP p):Yl (qdp p) fun _=>True:=by
 unfold qdp;have e:Yl (qeu p) Any3:=by
  unfold qeu;have hd:=h.l.1;refine qfg (Yl.forL (I:=fun i m=>m.length≤i) p.fD 0 [] (jf _) (fun i q m c hi f b=>?_) fun m _=>qfg (.ret trivial));rw[jc]at f b;have g:=(jd.1 hi).1;have fin:Yl ((mputO m q true).bind fun j=>c j) Any3:=Yl.bind (Yl.mputO oa (b _ (by have:=qld m q true;omega)));exact Yl.bind (Yl.val (if_pos trivial) (qfg (Yl.ite (fun _=>qfg (qfg fin)) fun _=>qfg (qfg fin))))
 refine Yl.bind (e.to fun r _=>Yl.ite (fun _=>.ret trivial) fun _=>Yl.thr _ (fun _ q c hq b=>?_) (.ret trivial));unfold qeQ;exact Yl.bind (Yl.bind ((qsy (h.r q hq) p.fD).to fun _ _=>.ret (Yl.ite (fun _=>.ret trivial) fun _=>b)))
def bTx(s:ByteArray):List Int:=z6 s.size++toY s.data.toList
def yy{α:Type}(e:α→List Int)(l:List α):List Int:=z6 l.length++l.flatMap e
mutual
def bT:T→List Int |.mk k i s ar=>z6 k++(if k=2 then bTx s++(z6 ar.length++bL ar)else z6 i)
def bL:List T→List Int |[]=>[] |t::l=>bT t++bL l
end
def zbO(n:ByteArray)(ts:List T):List Int:=bTx n++(z6 ts.length++bL ts)
def bAt(a:At):List Int:=zbO a.n a.ts
def bGl(g:Gl):List Int:=z6 g.op++zbO g.n g.ts
def zby(d:S_api_Decl):List Int:=bTx d.fy++z6 d.fH
def zbD(r:qs):List Int:=bTx r.fy++(yy bAt r.fm++(yy bAt r.ft++(yy bGl r.fu++(yy bGl r.fx++z6 r.fF))))
def y5(p:qf):List Int:=z6 1++(yy zby p.fD++yy zbD p.fe)
def yP(f:qB):List Int:=z6 f.fj++(z6 f.fA++if f.fj=0 then bGl f.fi else[])
def za9(x:Int×At):List Int:=z6 x.1++bAt x.2
def zaZ(x:Int×T):List Int:=z6 x.1++bT x.2
def zaT(x:qu):List Int:=z6 x.fp++yy z6 x.ff
def ym(c:qe):List Int:=z6 2++(yy yP c.fk++(yy za9 c.fh++(yy zaZ c.fo++(yy zaT c.fC++(z6 c.fl++(z6 c.fg++[bif c.fE then 1 else 0]))))))
def W1(f:qd→Option qd)(e:List Int):Prop:=∀b,b.length+e.length≤1000000000→f ⟨b,false⟩=some ⟨b++e,false⟩
section
variable{f g:qd→Option qd}{e e':List Int}
theorem W1.pure:W1 some []:=fun b _=>by rw[jv]
theorem W1.bind(j:W1 f e)(o:W1 g e'):W1 (fun c=>(f c).bind g) (e++e'):=fun b hb=>by
 rw[ja]at hb;show(f ⟨b,false⟩).bind g=_;rw[j b oa,jb,o _ (by rw[ja];omega),jo]
theorem W1.last(b:W1 f e):W1 (fun c=>(f c).bind fun r=>some r) e:=by
 have:=W1.bind b W1.pure
 rwa [jv]at this
end
theorem qgD{n lo hi:Int}(h:lo≤n∧n≤hi):W1 (qr n lo hi) (z6 n):=fun b hb=>by
 unfold qr;rw[cond_false,decide_eq_false (show¬n<lo by omega),cond_false,show qgR b n=some (b++z6 n)from if_pos oa,jb,decide_eq_false (show¬n>hi by omega)]
theorem qtH{s:ByteArray}(h:s.size≤40):W1 (qZ s) (bTx s):=fun b hb=>by
 unfold qZ;rw[cond_false,show qgI b s=some (b++bTx s)from if_pos ⟨by omega,by omega⟩,jb,decide_eq_false (show¬(s.size:Int)>40 by omega)]
theorem qCi{α:Type}{put:α→qd→Option qd}{e:α→List Int}:∀(l:List α)(i:Nat),(∀x∈l,W1 (put x) (e x))→W1 (fun c=>forL (β:=qd) (fun _ q w b=>(put q w).bind fun r=>b r) (fun w=>some w) i l c) (l.flatMap e)
 |[],_,_=>W1.pure
 |x::l,i,h=>by
  rw[vl];exact W1.bind (h x (je ..)) (qCi l (i+1) fun y hy=>h y (jp _ hy))
theorem qgr{α:Type}{put:α→qd→Option qd}{e:α→List Int}{j:Int}{l:List α}(hm:(l.length:Int)≤j)(h:∀x∈l,W1 (put x) (e x)):W1 (fun c=>(qr (l.length:Int) 0 j c).bind fun o=>bif o.f1_bad then some o else forL (β:=qd) (fun _ q w t=>(put q w).bind fun r=>t r) (fun w=>some w) 0 l o) (yy e l):=by
 refine W1.bind (qgD oa) fun b hb=>?_;exact qCi l 0 h b hb
theorem qx0{s:ByteArray}(h:zaR s=true):s.size≤40:=by
 unfold zaR at h;have h:=of_decide_eq_true h;rw[←qkg];rcases h with h|h|h|h|h<;>rw[h]<;>decide
theorem qiO{t:T}(h:zJ t=true)(c:t.k≠0)(j:t.k≠1):t.k=2∧t.i=0∧t.s.size≤40∧t.ar.length≤6∧zQ t.ar=true:=by
 by_cases b:t.k=2;rw[qkE b]at h;simp only[yL,jk,Jq,decide_eq_true_eq]at h;refine⟨b,h.1.1,?_,?_,h.2⟩;rcases h.1.2 with h|h
 exact qx0 h.1;exact qfQ h.1;rcases h.1.2 with h|h<;>omega
 rw[qlV c j b]at h;cases h
theorem qtS{t:T}(h:zJ t=true)(b:t.k=0):(-2147483648≤t.i∧t.i≤2147483648)∧t.s=⟨#[]⟩∧t.ar=[]:=by
 rw[qmb b]at h;have h:=of_decide_eq_true h;exact⟨⟨h.1,h.2.1⟩,qig (by rw[h.2.2.1,qe5]),jG h.2.2.2⟩
theorem qvy{t:T}(h:zJ t=true)(b:t.k=1):(0≤t.i∧t.i≤1048576)∧t.s=⟨#[]⟩∧t.ar=[]:=by
 rw[ql7 b]at h;have h:=of_decide_eq_true h;exact⟨⟨h.1,h.2.1⟩,qig (by rw[h.2.2.1,qe5]),jG h.2.2.2⟩
theorem qxG{t:T}(h:t.k=2):bT t=z6 t.k++(bTx t.s++(z6 t.ar.length++bL t.ar)):=by
 cases t;simp only[T.k]at h;subst h;simp[bT,T.k,T.s,T.ar]
theorem qrd{t:T}(h:t.k≠2):bT t=z6 t.k++z6 t.i:=by
 cases t;simp only[T.k]at h;simp[bT,T.k,T.i,h]
theorem qvz(l:List T):bL l=l.flatMap bT:=by
 induction l with
 |nil=>rfl
 |cons t l b=>rw[bL,vl,b]
theorem qwm{rec:List T→Int→qd→Option qd}{t:T}(o:zJ t=true)(hr:t.k=2→W1 (rec t.ar 6) (z6 t.ar.length++bL t.ar)):W1 (qU rec t) (bT t):=by
 by_cases c:t.k=0;have hi:=(qtS o c).1;rw[qrd oa];refine W1.bind (qgD oa) fun b hb=>?_;have e:(t.k==(0:Int))=true:=by simpa using c
 rw[e];exact W1.last (qgD hi) b hb;by_cases j:t.k=1;have hi:=(qvy o j).1;rw[qrd oa];refine W1.bind (qgD oa) fun b hb=>?_;have e:(t.k==(0:Int))=false:=by simpa using c
 have q:(t.k==(1:Int))=true:=by simpa using j
 rw[e,q];exact W1.last (qgD hi) b hb;obtain⟨r,_,hs,_,_⟩:=qiO o c j;rw[qxG r];refine W1.bind (qgD oa) fun b hb=>?_;have e:(t.k==(0:Int))=false:=by simpa using c
 have q:(t.k==(1:Int))=false:=by simpa using j
 rw[e,q];exact W1.bind (qtH hs) (W1.last (hr r)) b hb
theorem qsV:∀(fuel:Nat)(l:List T),wtL l<fuel→zQ l=true→l.length≤6→W1 (qaK fuel l 6) (z6 l.length++bL l)
 |0,l,h,_,_=>absurd h oa
 |fuel+1,l,h,j,hl=>by
  rw[qvz];intro b hb;unfold qaK;refine qgr (put:=qU (qaK fuel)) (e:=bT) oa (fun t c=>qwm (qhU j t c) fun r=>?_) b hb;have u:=qdT c;have v:=qd4 t;obtain⟨_,_,_,o,q⟩:=qiO (qhU j t c) oa oa;exact qsV fuel t.ar oa q o
theorem qwf{fuel:Nat}{n:ByteArray}{ts:List T}(hn:n.size≤40)(j:1000<fuel)(b:zQ ts=true)(o:wtL ts≤200)(c:ts.length≤6):W1 (qa6 fuel n ts) (zbO n ts):=W1.bind (qtH hn) (W1.last (qsV fuel ts oa b c))
theorem qvE{fuel:Nat}{a:At}(c:1000<fuel)(h:zn a=true):W1 (qW fuel a) (bAt a):=fun b hb=>by
 obtain⟨j,o,q⟩:=qhY h;have hn:a.n.size≤40:=by
  unfold zn at h;simp only[jk]at h;exact qfQ h.1.1
 unfold qW;rw[cond_false,show qdY a=some (zn a)from if_pos oa,h];exact W1.last (qwf hn c j o q) b hb
theorem qjp{g:Gl}(h:zu g=true):(0≤g.op∧g.op≤12)∧g.n.size≤40∧g.ts.length≤6:=by
 by_cases j:g.op=0;unfold zu at h;rw[if_pos j]at h;obtain⟨_,_,q⟩:=qhY h;unfold zn at h;simp only[jk]at h;exact⟨by omega,qfQ h.1.1,q⟩;have hl:=qh4 h j;unfold zu at h;rw[if_neg j]at h;simp only[jk,decide_eq_true_eq]at h;have hn:g.n=⟨#[]⟩:=qig (by rw[h.1.1,qe5]);have r:0≤zO g.op∧zO g.op≤2:=by
  have:=hl;unfold zO at this⊢;split
  omega;split
  omega;split<;>rename_i a b c<;>rw[if_neg a,if_neg b]at this
  omega;rw[if_neg c]at this;omega
 have o:0≤g.op∧g.op≤12:=by
  have:=r.1;unfold zO at this;split at this
  omega;split at this
  omega;split at this<;>omega
 refine⟨o,?_,by omega⟩;rw[hn];decide
theorem qvG{fuel:Nat}{g:Gl}(c:1000<fuel)(h:zu g=true):W1 (qY fuel g) (bGl g):=fun b hb=>by
 obtain⟨j,o⟩:=qdC h;obtain⟨q,r,t⟩:=qjp h;unfold qY;rw[cond_false,show qef g=some (zu g)from if_pos oa,h];exact W1.bind (qgD q) (W1.last (qwf r c j o t)) b hb
theorem qBx{fuel:Nat}{p:qf}{r:qs}(b:1000<fuel)(h:zcB p r):W1 (qbg fuel r) (zbD r):=by
 have o:=h.hd;have q:=h.gl;refine W1.bind (qtH h.nm) (W1.bind (qgr (put:=qW fuel) oa fun a c=>qvE b (h.ra a (jz _ c))) (W1.bind (qgr (put:=qW fuel) oa fun a c=>qvE b (h.ra a (jB _ c))) (W1.bind (qgr (put:=qY fuel) oa fun g j=>qvG b (h.rg g (jz _ j))) (W1.bind (qgr (put:=qY fuel) oa fun g j=>qvG b (h.rg g (jB _ j))) (W1.last (qgD h.vn))))))
theorem qrW{fuel:Nat}{p:qf}(w:1000<fuel)(h:zbV p)(hl:(y5 p).length≤1000000000):qbQ fuel p=some (y5 p):=by
 have hd:=h.dl;have hr:=h.rl;have hw:W1 (fun c=>(qr 1 1 1 c).bind fun j=>(qeg p.fD 30 j).bind fun q=>(qeo fuel p.fe 40 q).bind fun r=>some r) (y5 p):=W1.bind (qgD oa) (W1.bind (qgr (put:=qcU) (e:=zby) oa fun d hd=>W1.bind (qtH (h.dc d hd).1) (W1.last (qgD (h.dc d hd).2))) (W1.last (qgr (put:=qbg fuel) oa fun r hr=>qBx w (h.ru r hr))));have:=hw [] (by simpa using hl);unfold qbQ;have key:∀{o:Option qd}{a:qd→Option qd}{b:qd→Option qd},(o.bind fun j=>(a j).bind fun q=>(b q).bind fun r=>some r)=some ⟨y5 p,false⟩→(o.bind fun j=>(a j).bind fun q=>(b q).bind fun t=>(qai t).bind fun u=>some u)=some (y5 p):=fun{o a b} h=>by
  cases o with
  |none=>cases h
  |some x=>
   rw[jb]at h⊢;cases v:a x with
   |none=>rw[v]at h;cases h
   |some y=>
    rw[v,jb]at h;rw[jb];cases hb:b y with
    |none=>rw[hb]at h;cases h
    |some z=>
     rw[hb]at h;cases h;rfl
 exact key this
theorem qAx{fuel:Nat}{p:qf}{c:qe}{o:Int}{f:qB}(r:1000<fuel)(u:o≤2147483648)(hn:c.fl≤2147483648)(h:zbF p c o f):W1 (qap fuel f) (yP f):=by
 unfold yP;by_cases j:f.fj=0;obtain⟨v,t,_⟩:=h.z j;refine W1.bind (qgD oa) (W1.bind (qgD oa) fun b hb=>?_);have e:(f.fj==(0:Int))=true:=by simpa using j
 rw[if_pos j]at hb⊢;rw[e];exact W1.last (qvG r t) b hb;obtain⟨w1,q,x,A⟩:=h.w j;refine W1.bind (qgD oa) (W1.bind (qgD oa) fun b hb=>?_);have e:(f.fj==(0:Int))=false:=by simpa using j
 rw[if_neg j,e,q.1,q.2.1,q.2.2,qe5,jv];rfl
theorem qzu{fuel:Nat}{p:qf}{c:qe}{o:Int}(A:1000<fuel)(E:o≤2147483648)(h:StO p c o)(hl:(ym c).length≤1000000000):qaD fuel c=some (ym c):=by
 have M:=h.k;have N:=h.s.n;have B:=h.n;have F:=h.f;have O:=h.h.n;have G:c.fo.length≤1048576:=by
  have hn:(c.fo.map (·.1)).Nodup:=by
   refine Jh.2 (h.b.asc.imp fun{x y} H=>?_);exact fun e=>by omega
  have:=qg7 (n:=1048576) hn fun x t=>by
   obtain⟨q,hq,rfl⟩:=jt.1 t;have:=h.b.rg q hq;have:=(h.bn q hq).n;exact⟨q.1.toNat,by omega,by omega⟩
  rwa [jh]at this
 have wS:W1 (qdH fuel c.fk 1000) (yy yP c.fk):=qgr (put:=qap fuel) oa fun f j=>qAx A E B.2 (h.fr f j);have I:W1 (qdJ fuel c.fh 500) (yy za9 c.fh):=qgr (put:=qci fuel) oa fun x t=>W1.bind (qgD (by have:=h.s.g x t;have:=(h.it x t).n;omega)) (W1.last (qvE A (h.s.a x t)));have J:W1 (qdN fuel c.fo 1048576) (yy zaZ c.fo):=qgr (put:=qca fuel) oa fun q hq=>W1.bind (qgD (h.b.rg q hq)) fun b hb=>by
  obtain⟨C,P⟩:=qg2 (h.b.tm q hq);rw[cond_false,show qeM q.2=some (zT q.2)from if_pos oa,h.b.tm q hq];refine W1.last (f:=qdP fuel q.2) (qwm C fun Q=>?_) b hb;obtain⟨_,_,_,u,K⟩:=qiO C oa oa;have:=qd4 q.2;exact qsV fuel q.2.ar oa K u
 have L:W1 (qdO c.fC 5000) (yy zaT c.fC):=qgr (put:=qcc) oa fun f j=>by
  have w:=h.h.v f j;refine W1.bind (qgD (by have:=w.r;omega)) (W1.last (W1.last (qgr (put:=fun n=>qba n 2147483648) (e:=z6) (by have:=w.n;omega) fun i hi=>W1.last (qgD ⟨by have:=w.p i hi;omega,?_⟩))));obtain⟨r,_,_,_,u⟩:=h.fc f j;obtain⟨x,t,e⟩:=jt.1 (u i hi);have:=(h.it x t).n;omega
 unfold ym at hl⊢;simp only[ja]at hl;unfold qaD;have hn:qr 2 2 2 ⟨[],false⟩=some ⟨[]++z6 2,false⟩:=qgD (n:=2) (lo:=2) (hi:=2) oa [] (by simp only[ji];omega);rw[hn,jb,jq,wS _ oa,jb,I _ (by simp only[ja];omega),jb,J _ (by simp only[ja];omega),jb,L _ (by simp only[ja];omega),jb,qgD ⟨by omega,B.2⟩ _ (by simp only[ja];omega),jb,qgD F _ (by simp only[ja];omega),jb];rw[show∀(b:List Int) x,b.length≤1000000000→qgH b x=some (b++[bif x then 1 else 0])from fun b x hb=>if_pos hb];simp only[jb,qai,cond_false,jo];simp only[ja];omega
theorem qtn(l m:List Int):ofY (l++m)=ofY l++ofY m:=jJ
theorem quF(a b:List Int):(ofY (a++b)).drop a.length=ofY b:=by
 rw[qtn,←qgl a,List.drop_left]
theorem qwY{n lo hi:Int}(hl:lo≤n)(j:n≤hi)(b: -9223372036854775808≤n)(c:n<9223372036854775808)(a z:List Int):yh (ofY (a++z6 n++z)) (a.length:Int) lo hi=(n,((a++z6 n).length:Int),0):=by
 have e:(zZ 0 ((ofY (a++z6 n++z)).drop (a.length:Int).toNat))=(zig n,(enc (zig n)).length,0):=by
  rw[jO,jo,quF,qtn,qlM b c,qvL];refine qA7 0 (zig n) _ ?_ oa oa;have:=qt4 b c;omega
 have hlen:(z6 n).length=(enc (zig n)).length:=by rw[qlM b c,qjs]
 unfold yh;rw[e,if_neg (by rw[qgl];simp only[ja];omega),if_neg og,if_neg (by rw[qxH];omega),qxH];simp only[ja,hlen];simp
abbrev SR:=qc
def R1{α:Type}(f:SR→Option (Int⊕(α×SR)))(e:List Int)(x:α):Prop:=∀a z:List Int,(a++e++z).length≤1000000000→f ⟨a++e++z,(a.length:Int)⟩=some (.inr (x,⟨a++e++z,((a++e).length:Int)⟩))
section
variable{α β:Type}{f:SR→Option (Int⊕(α×SR))}{G:α×SR→Option (Int⊕(β×SR))}{x:α}{y:β}{e e':List Int}
theorem R1.bind(o:R1 f e x)(q:R1 (fun c=>G (x,c)) e' y):R1 (fun c=>bindX (f c) G) (e++e') y:=fun a z hl=>by
 have b:=o a (e'++z) (by simpa only[jo]using hl);have j:=q (a++e) z (by simpa only[jo]using hl);simp only[jo]at b j⊢;rw[b];exact j
theorem R1.last(b:R1 f e x)(j:∀c,G (x,c)=some (.inr (y,c))):R1 (fun c=>bindX (f c) G) e y:=by
 have h:R1 (fun c=>G (x,c)) [] y:=fun a z _=>by
  show G _=_;rw[j,jv]
 have:=R1.bind b h
 rwa [jv]at this
theorem R1.congr{g:SR→Option (Int⊕(α×SR))}(h:R1 f e x)(b:∀c,g c=f c):R1 g e x:=fun a z hl=>(b _).trans (h a z hl)
end
theorem qgz{lo hi n:Int}(h:lo≤n∧n≤hi)(c: -9223372036854775808≤lo)(j:hi<9223372036854775808):R1 (ql lo hi) (z6 n) n:=fun a z hl=>by
 have b:qqY (a++z6 n++z) (a.length:Int) lo hi=some (n,((a++z6 n).length:Int),0):=by
  rw[qqY,if_pos hl,qwY h.1 h.2 oa oa]
 unfold ql;simp only[b,jb];rfl
theorem qrs{s:ByteArray}(h:s.size≤40):R1 qN (bTx s) s:=fun a z hl=>by
 have hs:s.data.toList.length=s.size:=j8;unfold bTx at hl⊢;have c:=qwY (n:=(s.size:Int)) (lo:=0) (hi:=40) oa oa oa oa a (toY s.data.toList++z);have j:qny (a++(z6 s.size++toY s.data.toList)++z) (a.length:Int) 40=some (s,((a++(z6 s.size++toY s.data.toList)).length:Int),0):=by
  have b:yh (ofY (a++(z6 s.size++toY s.data.toList)++z)) (a.length:Int) 0 40=((s.size:Int),((a++z6 s.size).length:Int),0):=by
   simpa only[jo]using c
  have hd:(ofY (a++(z6 s.size++toY s.data.toList)++z)).drop (a++z6 (s.size:Int)).length=s.data.toList++ofY z:=by
   have:a++(z6 s.size++toY s.data.toList)++z=(a++z6 s.size)++(toY s.data.toList++z):=by simp only[jo]
   rw[this,quF,qtn,qvL]
  have o:yu (ofY (a++(z6 s.size++toY s.data.toList)++z)) (a.length:Int) 40=(s.data.toList,((a++(z6 s.size++toY s.data.toList)).length:Int),0):=by
   unfold yu;rw[b,if_neg oa,if_neg og,if_neg (by rw[qgl];simp only[ja,qjs,hs];omega)];simp only[jO,hd];rw[←hs,vK];simp only[ja,qjs,hs];congr 2
   omega
  rw[qny,if_pos hl,o]
 unfold qN;simp only[j,jb];rfl
theorem qzO(x:Bool):R1 qbd [bif x then 1 else 0] x:=fun a z hl=>by
 have c:getI (a++[bif x then 1 else 0]++z) (a.length:Int)=some (bif x then 1 else 0):=by
  rw[qfo];simp
 have j:qfM (a++[bif x then 1 else 0]++z) (a.length:Int)=some (x,((a++[bif x then(1:Int)else 0]).length:Int),0):=by
  have o:decide ((a.length:Int)<0)=false:=decide_eq_false oa;have q:decide ((a.length:Int)>((a++[bif x then(1:Int)else 0]++z).length:Int))=false:=decide_eq_false (by simp only[ja];omega);have r:((a.length:Int)==((a++[bif x then(1:Int)else 0]++z).length:Int))=false:=by
   rw[beq_eq_false_iff_ne];simp only[ja,JX];omega
  unfold qfM;rw[o,q,r,c];have b:wr ((a.length:Int)+1)=((a++[bif x then(1:Int)else 0]).length:Int):=by
   rw[qex (by simp only[ja]at hl;omega)];simp
  cases x<;>simp[b]<;>simpa using b
 unfold qbd;simp only[j,jb];rfl
theorem qCg{α:Type}{one:SR→Option (Int⊕(α×SR))}{sz:Nat}(r:sz≤1000){e:α→List Int}:∀(l out:List α)(i:Int),(∀x∈l,R1 one (e x) x)→out.length+l.length≤10000000→R1 (fun c=>forC (β:=List α×SR) (fun _ s j=>bindX (one s.2) fun b=>(appO sz s.1 [b.1]).bind fun o=>j (o,b.2)) (fun s=>some (.inr (s.1,s.2))) l.length i (out,c)) (l.flatMap e) (out++l)
 |[],out,i,_,_=>fun a z _=>by
  simp only[ji,List.flatMap_nil,jv];rfl
 |x::l,out,i,h,hl=>by
  rw[vl];have u:=qCg r l (out++[x]) (i+1) (fun y hy=>h y (jp _ hy)) (by simp only[ja,jg,ji]at hl⊢;omega);rw[jo,List.singleton_append]at u;have t:appO sz out [x]=some (out++[x]):=by
   have:(out.length+[x].length)*sz≤10000000*1000:=Nat.mul_le_mul (by simp only[jg,ji]at hl⊢;omega) r;exact qeL oa (by simp only[jg,ji]at hl⊢;omega)
  refine R1.bind (h x (je ..)) (G:=fun q=>(appO sz out [q.1]).bind fun v=>forC (β:=List α×SR) (fun _ s j=>bindX (one s.2) fun b=>(appO sz s.1 [b.1]).bind fun o=>j (o,b.2)) (fun s=>some (.inr (s.1,s.2))) l.length (i+1) (v,q.2)) (u.congr fun c=>?_);show(appO sz out [x]).bind _=_;rw[t];rfl
theorem qhn{α:Type}{one:SR→Option (Int⊕(α×SR))}{sz:Nat}(q:sz≤1000){e:α→List Int}{b:Int}(hm:b≤10000000){l:List α}(hl:(l.length:Int)≤b)(h:∀x∈l,R1 one (e x) x):R1 (fun c=>bindX (ql 0 b c) fun j=>forC (β:=List α×SR) (fun _ s r=>bindX (one s.2) fun o=>(appO sz s.1 [o.1]).bind fun t=>r (t,o.2)) (fun s=>some (.inr (s.1,s.2))) (j.1-0:Int).toNat 0 ([],j.2)) (yy e l) l:=by
 refine R1.bind (qgz (n:=(l.length:Int)) ⟨by omega,hl⟩ oa oa) ?_;have:=qCg q l [] 0 h (by simp only[ji];omega);rw[jq]at this;refine this.congr fun c=>?_;show forC _ _ ((l.length:Int)-0).toNat 0 _=_;rw[Int.sub_zero,jO]
theorem qun{t:T}(b:t.k=2):yi t=zI t.ar+1:=by rw[qgf,T.used,if_pos b]
theorem qra{l:List T}{t:T}(h:t∈l):yi t≤zI l:=by
 induction l with
 |nil=>cases h
 |cons x l b=>
  simp only[zI];rcases jx.1 h with rfl|h
  omega;have:=b h;omega
theorem qxE{rec:Int→SR→Option (Int⊕(List T×SR))}{t:T}{d:Nat}(w:zJ t=true)(hd:yi t+d≤20)(hr:t.k=2→R1 (rec ((d+1:Nat):Int)) (z6 t.ar.length++bL t.ar) t.ar):R1 (qP rec (d:Int)) (bT t) t:=by
 have E:=qgf t;have F:decide ((d:Int)>19)=false:=decide_eq_false oa;have pre:∀{e:List Int},R1 (fun c=>bindX (ql 0 2 c) fun b=>
  (bif(b.1==(0:Int))then(bindX (ql (-2147483648) 2147483648 b.2) fun o=>some (.inr ((T.mk b.1 o.1 ⟨#[]⟩ []),o.2)))else
  (bif(b.1==(1:Int))then(bindX (ql 0 1048576 b.2) fun q=>some (.inr ((T.mk b.1 q.1 ⟨#[]⟩ []),q.2)))else
  (bindX (qN b.2) fun r=>(bindX (rec (wr ((d:Int)+(1:Int))) r.2) fun j=>some (.inr ((T.mk b.1 0 r.1 j.1),j.2))))))) e t→R1 (qP rec (d:Int)) e t:=fun h=>h.congr fun c=>by
  unfold qP;rw[F,cond_false]
 refine pre ?_;by_cases u:t.k=0;obtain⟨hi,hs,A⟩:=qtS w u;rw[qrd oa];refine R1.bind (qgz (n:=t.k) oa oa oa) ?_;have e:(t.k==(0:Int))=true:=by simpa using u
 simp only[e,cond_true];refine R1.last (qgz (n:=t.i) hi oa oa) fun c=>?_;rw[←hs,←A,T.eta];by_cases v:t.k=1;obtain⟨hi,hs,A⟩:=qvy w v;rw[qrd oa];refine R1.bind (qgz (n:=t.k) oa oa oa) ?_;have e:(t.k==(0:Int))=false:=by simpa using u
 have B:(t.k==(1:Int))=true:=by simpa using v
 simp only[e,B,cond_true,cond_false];refine R1.last (qgz (n:=t.i) hi oa oa) fun c=>?_;rw[←hs,←A,T.eta];obtain⟨C,hi,hs,_,_⟩:=qiO w u v;rw[qxG C];refine R1.bind (qgz (n:=t.k) oa oa oa) ?_;have e:(t.k==(0:Int))=false:=by simpa using u
 have B:(t.k==(1:Int))=false:=by simpa using v
 simp only[e,B,cond_false];refine R1.bind (qrs hs) ?_;have ew:wr ((d:Int)+1)=((d+1:Nat):Int):=by
  rw[qex oa];omega
 rw[ew];dsimp only;refine R1.last (hr C) fun c=>?_;rw[←hi,T.eta]
theorem qwA:∀(fuel:Nat)(l:List T)(d:Nat),wtL l<fuel→zQ l=true→l.length≤6→zI l+d≤20→R1 (qJ fuel (d:Int)) (z6 l.length++bL l) l
 |0,l,_,h,_,_,_=>absurd h oa
 |fuel+1,l,d,h,o,hl,hd=>by
  rw[qvz];have key:R1 (fun c=>bindX (qc7 (qJ fuel) 6 (d:Int) c) fun b=>some (.inr (b.1,b.2))) (yy bT l) l:=by
   refine R1.last (qhn (one:=qaG (qJ fuel) (d:Int)) (sz:=56) oa oa oa fun t j=>R1.last (qxE (qhU o t j) (by have:=qra j;omega) fun q=>?_) fun c=>rfl) fun c=>rfl;have v:=qdT j;have w:=qd4 t;have A:=qra j;have B:=qun q;obtain⟨_,_,_,r,u⟩:=qiO (qhU o t j) oa oa;exact qwA fuel t.ar (d+1) oa u r oa
  exact key.congr fun c=>by rw[qJ]
theorem qwK{fuel:Nat}{l:List T}(h:wtL l<fuel)(b:zQ l=true)(hl:l.length≤6)(hd:zI l≤20):R1 (qJ fuel 0) (z6 l.length++bL l) l:=qwA fuel l 0 h b hl oa
theorem qju{l:List T}(h:yj l=true):zI l≤20:=by
 obtain⟨_,_,h⟩:=(qj0 l).1 h;omega
theorem qzs{fuel:Nat}{a:At}(o:1000<fuel)(h:zn a=true):R1 (qaA fuel) (bAt a) a:=by
 obtain⟨b,q,j⟩:=qhY h;unfold zn at h;simp only[jk]at h;have hd:=qju h.2;refine R1.bind (qrs (qfQ h.1.1)) ?_;dsimp only;exact R1.last (qwK oa b j hd) fun c=>rfl
theorem qzC{fuel:Nat}{g:Gl}(r:1000<fuel)(h:zu g=true):R1 (qaz fuel) (bGl g) g:=by
 obtain⟨b,t⟩:=qdC h;obtain⟨j,o,q⟩:=qjp h;have hd:zI g.ts≤20:=by
  unfold zu at h;split at h
  unfold zn at h;simp only[jk]at h;exact qju h.2;simp only[jk]at h;exact qju h.2
 refine R1.bind (qgz j oa oa) ?_;dsimp only;refine R1.bind (qrs o) ?_;dsimp only;exact R1.last (qwK oa b q hd) fun c=>rfl
theorem qBF{fuel:Nat}{p:qf}{r:qs}(q:1000<fuel)(h:zcB p r):R1 (qbc fuel) (zbD r) r:=by
 have u:=h.hd;have v:=h.gl;have t:∀l:List At,l.length≤4→(∀a∈l,zn a=true)→R1 (qdI fuel 4) (yy bAt l) l:=fun l hl b=>qhn (one:=qaA fuel) (sz:=40) oa oa oa fun a j=>qzs q (b a j);have tG:∀l:List Gl,l.length≤12→(∀a∈l,zu a=true)→R1 (qdM fuel 12) (yy bGl l) l:=fun l hl b=>qhn (one:=qaz fuel) (sz:=48) oa oa oa fun a j=>qzC q (b a j);refine R1.bind (qrs h.nm) ?_;dsimp only;refine R1.bind (t _ oa fun a b=>h.ra a (jz _ b)) ?_;dsimp only;refine R1.bind (t _ oa fun a b=>h.ra a (jB _ b)) ?_;dsimp only;refine R1.bind (tG _ oa fun g o=>h.rg g (jz _ o)) ?_;dsimp only;refine R1.bind (tG _ oa fun g o=>h.rg g (jB _ o)) ?_;dsimp only;exact R1.last (qgz h.vn oa oa) fun c=>rfl
theorem qpZ:0<(z6 1).length∧0<(z6 2).length:=by
 rw[qlM oa oa,qlM oa oa,qjs,qjs];rw[qfz od,qfz od];exact⟨by simp,by simp⟩
theorem qku{α β γ:Type}{x:Option (Int⊕α)}{f:α→Option (Int⊕β)}{g:β→Option (Int⊕γ)}{b:β}(h:bindX x f=some (.inr b)):bindX x (fun a=>bindX (f a) g)=g b:=by
 have:bindX x (fun a=>bindX (f a) g)=bindX (bindX x f) g:=by
  cases x with
  |none=>rfl
  |some s=>cases s<;>rfl
 rw[this,h];rfl
theorem qqD{fuel:Nat}{p:qf}(o:1000<fuel)(h:zbV p)(hl:(y5 p).length≤1000000000):qb8 fuel (y5 p)=some (p,0):=by
 have hd:=h.dl;have hr:=h.rl;have q:R1 (qet 30) (yy zby p.fD) p.fD:=qhn (one:=qbz) (sz:=24) (e:=zby) oa oa oa fun d hd=>by
  refine R1.bind (qrs (h.dc d hd).1) ?_;dsimp only;exact R1.last (qgz (h.dc d hd).2 oa oa) fun c=>rfl
 have t:R1 (qes fuel 40) (yy zbD p.fe) p.fe:=qhn (one:=qbc fuel) (sz:=120) oa oa oa fun r hr=>qBF o (h.ru r hr);have hR:R1 (fun c=>bindX (ql 1 1 c) fun b=>qaZ fuel b.2) (y5 p) p:=by
  refine R1.bind (qgz (n:=1) oa oa oa) ?_;dsimp only;refine R1.bind q ?_;dsimp only;exact R1.last t fun c=>rfl
 have j:=hR [] [] (by simpa using hl);simp only[jq,jv,ji]at j;rw[show((0:Nat):Int)=0 from rfl]at j;have u:qc6 fuel (y5 p) 1=some (.inr (p,0)):=by
  have hlen:((y5 p).length:Int)≠0:=by
   have:=qpZ.1;unfold y5;rw[ja];omega
  have v:(((y5 p).length:Int)==(0:Int))=false:=by simpa using hlen
  have w:decide (((y5 p).length:Int)<((y5 p).length:Int))=false:=decide_eq_false oa;unfold qc6;rw[qku j];rw[w,cond_false,qrW o h hl,jb,v,cond_false]
 unfold qb8 qe4;rw[u];rfl
theorem qA8{fuel:Nat}{p:qf}{c:qe}{o:Int}{f:qB}(r:1000<fuel)(B:o≤2147483648)(hn:c.fl≤2147483648)(h:zbF p c o f):R1 (qao fuel) (yP f) f:=by
 unfold yP;obtain⟨g,id,oc⟩:=f;dsimp only at h⊢;by_cases b:id=0;obtain⟨t,q,_⟩:=h.z b;dsimp only at t q;rw[if_pos b];refine R1.bind (qgz (n:=id) oa oa oa) ?_;dsimp only;refine R1.bind (qgz (n:=oc) oa oa oa) ?_;have e:(id==(0:Int))=true:=by simpa using b
 simp only[e,cond_true];exact R1.last (qzC r q) fun c=>rfl;obtain⟨w1,j,u,v⟩:=h.w b;dsimp only at w1 j u v;rw[if_neg b,jv];refine R1.bind (qgz (n:=id) oa oa oa) ?_;dsimp only;refine R1.last (qgz (n:=oc) (lo:= -1) (hi:=2147483648) oa oa oa) fun c=>?_;have e:(id==(0:Int))=false:=by simpa using b
 have A:g=⟨0,⟨#[]⟩,[]⟩:=by
  cases g;simp only at j;rename_i n ts
  have hn:n=⟨#[]⟩:=qig (by rw[j.2.1,qe5]);rw[j.1,j.2.2,hn]
 simp only[e,cond_false,A]
theorem qrQ{fuel:Nat}{p:qf}{c:qe}{o:Int}(u:1000<fuel)(E:o≤2147483648)(h:StO p c o)(hl:(ym c).length≤1000000000):qaW fuel (ym c)=some (c,0):=by
 have V:=h.k;have W:=h.s.n;have F:=h.n;have I:=h.f;have X:=h.h.n;have J:c.fo.length≤1048576:=by
  have hn:(c.fo.map (·.1)).Nodup:=by
   refine Jh.2 (h.b.asc.imp fun{x y} K=>?_);exact fun e=>by omega
  have:=qg7 (n:=1048576) hn fun x t=>by
   obtain⟨q,hq,rfl⟩:=jt.1 t;have:=h.b.rg q hq;have:=(h.bn q hq).n;exact⟨q.1.toNat,by omega,by omega⟩
  rwa [jh]at this
 have L:R1 (qdG fuel 1000) (yy yP c.fk) c.fk:=qhn (one:=qao fuel) (sz:=64) oa oa oa fun f j=>qA8 u E F.2 (h.fr f j);have M:R1 (qdA fuel 500) (yy za9 c.fh) c.fh:=qhn (one:=qbe fuel) (sz:=48) oa oa oa fun x t=>by
  refine R1.bind (qgz (n:=x.1) (by have:=h.s.g x t;have:=(h.it x t).n;omega) oa oa) ?_;dsimp only;exact R1.last (qzs u (h.s.a x t)) fun c=>rfl
 have N:R1 (qdF fuel 1048576) (yy zaZ c.fo) c.fo:=qhn (one:=qaQ fuel) (sz:=64) oa oa oa fun q hq=>by
  have hr:=h.b.tm q hq;obtain⟨H,Y⟩:=qg2 hr;obtain⟨_,_,Z⟩:=(qjL q.2).1 hr;have hw:=qd4 q.2;refine R1.bind (qgz (n:=q.1) (h.b.rg q hq) oa oa) ?_;dsimp only;refine R1.last (f:=qdq fuel 0) (qxE (d:=0) H oa fun O=>?_) fun c=>rfl;obtain⟨_,_,_,w,P⟩:=qiO H oa oa;have:=qun O;exact qwA fuel q.2.ar 1 oa P w oa
 have Q:R1 (qdx 5000) (yy zaT c.fC) c.fC:=qhn (one:=qaN) (sz:=32) oa oa oa fun f j=>by
  have A:=h.h.v f j;refine R1.bind (qgz (n:=f.fp) (by have:=A.r;omega) oa oa) ?_;dsimp only;have tN:R1 (qbw 4 2147483648) (yy z6 f.ff) f.ff:=R1.last (f:=qd3 4 2147483648) (qhn (one:=qbb 2147483648) (sz:=8) oa oa (by have:=A.n;omega) fun i hi=>by
   obtain⟨r,_,_,_,w⟩:=h.fc f j;obtain⟨x,t,e⟩:=jt.1 (w i hi);have:=(h.it x t).n;exact R1.last (qgz (n:=i) ⟨by have:=A.p i hi;omega,by omega⟩ oa oa) fun c=>rfl) fun c=>rfl
  exact R1.last tN fun c=>rfl
 have hR:R1 (fun c=>bindX (ql 2 2 c) fun B=>qay fuel B.2) (ym c) c:=by
  refine R1.bind (qgz (n:=2) oa oa oa) ?_;dsimp only;refine R1.bind L ?_;dsimp only;refine R1.bind M ?_;dsimp only;refine R1.bind N ?_;dsimp only;refine R1.bind Q ?_;dsimp only;refine R1.bind (qgz (n:=c.fl) ⟨by omega,F.2⟩ oa oa) ?_;dsimp only;refine R1.bind (qgz (n:=c.fg) I oa oa) ?_;dsimp only;exact R1.last (qzO c.fE) fun c=>rfl
 have C:=hR [] [] (by simpa using hl);simp only[jq,jv,ji]at C;rw[show((0:Nat):Int)=0 from rfl]at C;have R:qbt fuel (ym c) 2=some (.inr (c,0)):=by
  have hlen:((ym c).length:Int)≠0:=by
   have:=qpZ.2;unfold ym;rw[ja];omega
  have S:(((ym c).length:Int)==(0:Int))=false:=by simpa using hlen
  have U:decide (((ym c).length:Int)<((ym c).length:Int))=false:=decide_eq_false oa;unfold qbt;rw[qku C];rw[U,cond_false,qzu u E h hl,jb,S,cond_false]
 unfold qaW qew;rw[R];rfl
theorem qbu(n:Int):(z6 n).length≤10:=by
 unfold z6;rw[qjs,jA];omega
theorem qp2{s:ByteArray}(h:s.size≤40):(bTx s).length≤50:=by
 have:=qbu s.size;unfold bTx;rw[ja,qjs];have:s.data.toList.length=s.size:=j8;omega
theorem qux:∀(n:Nat)(l:List T),wtL l≤n→zQ l=true→(bL l).length≤70*wtL l
 |_,[],_,_=>ju _
 |0,t::l,h,_=>by
  have:=qd4 t;simp only[wtL]at h;omega
 |n+1,t::l,h,b=>by
  have hw:=qd4 t;simp only[zQ,jk]at b;simp only[wtL]at h⊢;simp only[bL,ja];have o:=qux n l oa b.2;have q:(bT t).length≤70*wt t:=by
   have r:=qbu t.k;have u:=qbu t.i;have v:=qbu t.ar.length;by_cases c:t.k=2;obtain⟨_,_,hs,_,j⟩:=qiO b.1 oa oa;have w:=qux n t.ar oa j;have A:=qp2 hs;rw[qxG c];simp only[ja];omega;rw[qrd c];simp only[ja];omega
  omega
theorem qso{n:ByteArray}{ts:List T}(hn:n.size≤40)(b:zQ ts=true)(hw:wtL ts≤200):(zbO n ts).length≤14060:=by
 have c:=qp2 hn;have j:=qbu ts.length;have o:=qux _ ts (jf _) b;unfold zbO;simp only[ja];omega
theorem qtb{a:At}(h:zn a=true):(bAt a).length≤14060:=by
 obtain⟨b,c,_⟩:=qhY h;unfold zn at h;simp only[jk]at h;exact qso (qfQ h.1.1) b c
theorem qtc{g:Gl}(h:zu g=true):(bGl g).length≤14070:=by
 obtain⟨b,c⟩:=qdC h;obtain⟨_,j,_⟩:=qjp h;have:=qso j b c;have:=qbu g.op;unfold bGl;rw[ja];omega
theorem qtM{α:Type}{e:α→List Int}{B:Nat}:∀{l:List α},(∀x∈l,(e x).length≤B)→(l.flatMap e).length≤l.length*B
 |[],_=>ju _
 |x::l,h=>by
  have b:=h x (je ..);have c:=qtM (l:=l) fun y hy=>h y (jp _ hy);rw[vl,ja,jg,Ji];omega
theorem qfN{α:Type}{e:α→List Int}(B M:Nat){l:List α}(h:∀x∈l,(e x).length≤B)(hm:l.length≤M):(yy e l).length≤10+M*B:=by
 have b:=qbu l.length;have c:=qtM h;have j:=jH B hm;unfold yy;rw[ja];omega
theorem qq1{p:qf}(h:zbV p):(y5 p).length≤1000000000:=by
 have c:=qbu 1;have j:=qfN (e:=zby) 60 30 (fun d hd=>by
  have:=qp2 (h.dc d hd).1;have:=qbu d.fH;unfold zby;rw[ja];omega) h.dl
 have o:=qfN (e:=zbD) 500000 40 (fun r hr=>by
  have hr:=h.ru r hr;have a0:=qp2 hr.nm;have hd:=hr.hd;have q:=hr.gl;have t:=qfN (e:=bAt) 14060 4 (l:=r.fm) (fun a b=>qtb (hr.ra a (jz _ b))) oa;have u:=qfN (e:=bAt) 14060 4 (l:=r.ft) (fun a b=>qtb (hr.ra a (jB _ b))) oa;have a3:=qfN (e:=bGl) 14070 12 (l:=r.fu) (fun a b=>qtc (hr.rg a (jz _ b))) oa;have a4:=qfN (e:=bGl) 14070 12 (l:=r.fx) (fun a b=>qtc (hr.rg a (jB _ b))) oa;have a5:=qbu r.fF;unfold zbD;simp only[ja];omega) h.rl
 unfold y5;simp only[ja];omega
theorem qxq{p:qf}{c:qe}{o:Int}(h:StO p c o)(hF:c.fg≤65000):(ym c).length≤1000000000:=by
 have j:c.fo.length≤65000:=by
  have hn:(c.fo.map (·.1)).Nodup:=by
   refine Jh.2 (h.b.asc.imp fun{x y} B=>?_);exact fun e=>by omega
  have:=qg7 (n:=65000) hn fun x r=>by
   obtain⟨q,hq,rfl⟩:=jt.1 r;have:=h.b.rg q hq;have:=(h.bn q hq).n;exact⟨q.1.toNat,by omega,by omega⟩
  rwa [jh]at this
 have E:=qbu 2;have F:=qfN (e:=yP) 14090 1000 (l:=c.fk) (fun f t=>by
  have u:=qbu f.fj;have H:=qbu f.fA;have w:=h.fr f t;unfold yP;by_cases A:f.fj=0;have:=qtc (w.z A).2.1;rw[if_pos A];simp only[ja];omega;rw[if_neg A];simp only[ja,ji];omega) h.k
 have I:=qfN (e:=za9) 14070 500 (l:=c.fh) (fun x r=>by
  have u:=qbu x.1;have:=qtb (h.s.a x r);unfold za9;rw[ja];omega) h.s.n
 have J:=qfN (e:=zaZ) 14010 65000 (l:=c.fo) (fun q hq=>by
  have u:=qbu q.1;obtain⟨C,K⟩:=qg2 (h.b.tm q hq);have:=qux _ [q.2] (jf _) (by simp[zQ,C]);simp only[bL,wtL,jv,vh]at this;unfold zaZ;rw[ja];omega) j
 have L:=qfN (e:=zaT) 60 5000 (l:=c.fC) (fun f t=>by
  have u:=qbu f.fp;have:=qfN (e:=z6) 10 4 (l:=f.ff) (fun i _=>qbu i) (h.h.v f t).n.2;unfold zaT;rw[ja];omega) h.h.n
 have M:=qbu c.fl;have N:=qbu c.fg;unfold ym;simp only[ja,jg,ji];omega
theorem bb{α:Type}[BEq α][LawfulBEq α](a:α):(a !=a)=false:=by simp
theorem quX(t:T):zaY t t=true:=by
 unfold zaY;rw[quA];rfl
theorem qpa(a:At):(zbk a a==0)=true:=by
 have h:∀l:List UInt8,zb2 l l=0:=fun l=>by have:=qzh l l;omega
 unfold zbk;rw[qAs,h,qsd,qnf];rfl
theorem qoS(g:Gl):yn g g=true:=by
 unfold yn;rw[qnf];simp
theorem qk6{α:Type}{body:Nat→α→Unit→(Unit→Option Bool)→Option Bool}{l:List α}(hb:∀(i:Nat)(q:α)(b:Unit→Option Bool),l[i]? =some q→b ()=some true→body i q () b=some true):forL body (fun _=>some true) 0 l ()=some true:=by
 have:Yl (forL body (fun _=>some true) 0 l ()) fun r=>r=true:=by
  refine Yl.forL (I:=fun _ _=>True) l 0 () trivial (fun i q _ b hi _ c=>?_) fun _ _=>.ret rfl;rw[jc];obtain⟨r,j,rfl⟩:=c () trivial;exact⟨true,hb i q b hi j,rfl⟩
 obtain⟨r,j,rfl⟩:=this;exact j
theorem qth(e:qO):qa4 e e=some true:=by
 unfold qa4;simp only[bb,cond_false];exact qk6 fun i q b hi hn=>by rw[qgn hi,jb,bb,cond_false,hn]
theorem qy3(l:List qO):qbD l l=some true:=by
 unfold qbD;rw[bb,cond_false];exact qk6 fun i q b hi hn=>by rw[qgn hi,jb,qth,jb,j5,cond_false,hn]
theorem qvS(l:List At)(h:∀a∈l,zn a=true):qab l l=some true:=by
 unfold qab;rw[bb,cond_false];exact qk6 fun i q b hi hn=>by
  have:=qgG (h q (List.mem_of_getElem? hi));rw[qgn hi,jb,show ql6 q q=some (zbk q q==0)from if_pos oa,qpa,jb,j5,cond_false,hn]
theorem quv(l:List Gl)(h:∀a∈l,zu a=true):qaa l l=some true:=by
 unfold qaa;rw[bb,cond_false];exact qk6 fun i q b hi hn=>by
  have:=(qdC (h q (List.mem_of_getElem? hi))).2;rw[qgn hi,jb,show qiP q q=some (yn q q)from if_pos oa,qoS,jb,j5,cond_false,hn]
theorem qpd{p:qf}(h:zbV p):qbG p p=some true:=by
 unfold qbG;rw[bb,cond_false,bb,cond_false];have inner:forL (β:=Unit) (fun w c _ A=>
  (((getI p.fe (w:Int)).bind fun B=>some (B,c)).bind fun b=>
  (bif(!(c.fy.toList==b.1.fy.toList))then some false else
  (bif(c.fF !=b.1.fF)then some false else
  ((qab c.fm b.1.fm).bind fun j=>
  (bif(!j)then some false else
  ((qab c.ft b.1.ft).bind fun o=>
  (bif(!o)then some false else
  ((qaa c.fu b.1.fu).bind fun t=>
  (bif(!t)then some false else
  ((qaa c.fx b.1.fx).bind fun u=>
  (bif(!u)then some false else(A ()))))))))))))) (fun _=>some true) 0 p.fe ()=some true:=qk6 fun i q K hi hn=>by
  have hr:=h.ru q (List.mem_of_getElem? hi);rw[qgn hi];simp only[jb,beq_self_eq_true,j5,cond_false,bb];rw[qvS _ fun a C=>hr.ra a (jz _ C)];simp only[jb,j5,cond_false];rw[qvS _ fun a C=>hr.ra a (jB _ C)];simp only[jb,j5,cond_false];rw[quv _ fun a C=>hr.rg a (jz _ C)];simp only[jb,j5,cond_false];rw[quv _ fun a C=>hr.rg a (jB _ C)];simp only[jb,j5,cond_false,hn]
 have:Yl (forL (β:=Unit) (fun F E _ H=>
  ((getI p.fD (F:Int)).bind fun v=>
  (bif(!(E.fy.toList==v.fy.toList))then some false else
  (bif(E.fH !=v.fH)then some false else(H ()))))) (fun _=>(forL (β:=Unit) (fun w c _ A=>
  (((getI p.fe (w:Int)).bind fun B=>some (B,c)).bind fun b=>
  (bif(!(c.fy.toList==b.1.fy.toList))then some false else
  (bif(c.fF !=b.1.fF)then some false else
  ((qab c.fm b.1.fm).bind fun j=>
  (bif(!j)then some false else
  ((qab c.ft b.1.ft).bind fun o=>
  (bif(!o)then some false else
  ((qaa c.fu b.1.fu).bind fun t=>
  (bif(!t)then some false else
  ((qaa c.fx b.1.fx).bind fun u=>
  (bif(!u)then some false else(A ()))))))))))))) (fun _=>some true) 0 p.fe ())) 0 p.fD ()) fun r=>r=true:=by
  refine Yl.forL (I:=fun _ _=>True) p.fD 0 () trivial (fun i q _ K hi _ J=>?_) fun _ _=>⟨true,inner,rfl⟩
  rw[jc];refine Yl.getN hi ?_;simp only[beq_self_eq_true,j5,cond_false,bb];exact J () trivial
 obtain⟨r,L,rfl⟩:=this;exact L
theorem qw4(l:List qB)(h:∀f∈l,wtL f.fi.ts≤1000000000):qaO l l=some true:=by
 unfold qaO;rw[bb,cond_false];exact qk6 fun i q b hi hn=>by
  rw[qgn hi];simp only[jb,bb,cond_false];rw[show qiP q.fi q.fi=some (yn q.fi q.fi)from if_pos (h q (List.mem_of_getElem? hi)),qoS,jb,j5,cond_false,hn]
theorem qxP(l:List (Int×At))(h:∀f∈l,wtL f.2.ts≤1000000000):qb4 l l=some true:=by
 unfold qb4;rw[bb,cond_false];exact qk6 fun i q b hi hn=>by
  rw[qgn hi];simp only[jb,bb,cond_false];rw[show ql6 q.2 q.2=some (zbk q.2 q.2==0)from if_pos (h q (List.mem_of_getElem? hi)),qpa,jb,j5,cond_false,hn]
theorem qxY(l:List (Int×T))(h:∀f∈l,wt f.2≤1000000000):qcd l l=some true:=by
 unfold qcd;rw[bb,cond_false,qqI];exact qk6 fun i q b hi hn=>by
  have:=(jd.1 hi).1;rw[decide_eq_true (show(i:Int)<(l.length:Int) by omega),cond_true,qgn hi];simp only[jb,bb,cond_false];rw[show qgQ q.2 q.2=some (zaY q.2 q.2)from if_pos (h q (List.mem_of_getElem? hi)),quX,jb,j5,cond_false,hn]
theorem qxa(a:Int):qal a a=some 0:=by
 unfold qal;rw[decide_eq_false (show¬a<a by omega)];rfl
theorem qta(f:qu):qaJ f f=some 0:=by
 unfold qaJ;rw[qxa,jb,qqI];rw[show((0:Int)==0)=true from rfl,cond_true,qxa,jb];dsimp only;rw[qqI];have:Yl (forL (β:=Int) (fun j t b u=>(bif(decide ((j:Int)<(f.ff.length:Int)))then(bif(b==(0:Int))then((getI f.ff (j:Int)).bind fun v=>((qal t v).bind fun o=>(u o)))else some b)else some b)) (fun b=>some b) 0 f.ff 0) fun r=>r=0:=by
  refine Yl.forL (I:=fun _ c=>c=0) f.ff 0 0 rfl (fun i q c C hi w A=>?_) fun c w=>.ret w;rw[jc];have:=(jd.1 hi).1;rw[decide_eq_true (show(i:Int)<(f.ff.length:Int) by omega),cond_true,w];rw[show((0:Int)==0)=true from rfl,cond_true];exact Yl.getN hi (Yl.bind (Yl.val (qxa q) (A 0 rfl)))
 obtain⟨r,B,rfl⟩:=this;exact B
theorem qyd(l:List qu):qcb l l=some true:=by
 unfold qcb;rw[bb,cond_false,qqI];exact qk6 fun i q b hi hn=>by
  have:=(jd.1 hi).1;rw[decide_eq_true (show(i:Int)<(l.length:Int) by omega),cond_true,qgn hi,jb,qta,jb,bb,cond_false,hn]
theorem qv9{c:qe}(h:BgC c):qaL c c=some true:=by
 unfold qaL;rw[qw4 _ h.k,jb,cond_true,qxP _ h.s,jb,cond_true,qxY _ h.b,jb,cond_true,qyd,jb,cond_true];simp
def z0:qe:=⟨[],[],[],[],0,0,false⟩
theorem qBj(fuel:Nat):∃b,qaD fuel z0=some b∧qaW fuel b=some (z0,0):=by
 have w1:qaD fuel z0=some (ym z0):=by
  unfold qaD;have hn:qr 2 2 2 ⟨[],false⟩=some ⟨[]++z6 2,false⟩:=qgD (n:=2) (lo:=2) (hi:=2) oa [] (by have:=qbu 2;simp only[ji];omega);have o:=qbu 0;have r:=qbu 2;have wS:W1 (qdH fuel z0.fk 1000) (yy yP z0.fk):=qgr (put:=qap fuel) od fun f j=>by cases j
  have v:W1 (qdJ fuel z0.fh 500) (yy za9 z0.fh):=qgr (put:=qci fuel) od fun x q=>by cases q
  have w:W1 (qdN fuel z0.fo 1048576) (yy zaZ z0.fo):=qgr (put:=qca fuel) od fun x q=>by cases q
  have A:W1 (qdO z0.fC 5000) (yy zaT z0.fC):=qgr (put:=qcc) od fun x q=>by cases q
  have J:(yy yP z0.fk).length≤10:=by simp[yy,z0,o]
  have l2:(yy za9 z0.fh).length≤10:=by simp[yy,z0,o]
  have K:(yy zaZ z0.fo).length≤10:=by simp[yy,z0,o]
  have L:(yy zaT z0.fC).length≤10:=by simp[yy,z0,o]
  have M:(z6 z0.fl).length≤10:=qbu _;have N:(z6 z0.fg).length≤10:=qbu _;rw[hn,jb,jq,wS _ oa,jb,v _ (by simp only[ja];omega),jb,w _ (by simp only[ja];omega),jb,A _ (by simp only[ja];omega),jb,qgD ⟨by decide,by decide⟩ _ (by simp only[ja];omega),jb,qgD ⟨by decide,by decide⟩ _ (by simp only[ja];omega),jb];rw[show∀(b:List Int) x,b.length≤1000000000→qgH b x=some (b++[bif x then 1 else 0])from fun b x hb=>if_pos hb];simp only[jb,qai,cond_false,jo,ym];simp only[ja];omega
 refine⟨_,w1,?_⟩;have hl:(ym z0).length≤1000000000:=by
  have o:=qbu 0;have r:=qbu 2;simp only[ym,yy,z0,ja,List.flatMap_nil,ji,jg,Int.natCast_zero];omega
 have B:R1 (qdG fuel 1000) (yy yP z0.fk) z0.fk:=qhn (one:=qao fuel) (sz:=64) oa oa od fun f j=>by cases j
 have C:R1 (qdA fuel 500) (yy za9 z0.fh) z0.fh:=qhn (one:=qbe fuel) (sz:=48) oa oa od fun f j=>by cases j
 have E:R1 (qdF fuel 1048576) (yy zaZ z0.fo) z0.fo:=qhn (one:=qaQ fuel) (sz:=64) oa oa od fun f j=>by cases j
 have F:R1 (qdx 5000) (yy zaT z0.fC) z0.fC:=qhn (one:=qaN) (sz:=32) oa oa od fun f j=>by cases j
 have hR:R1 (fun c=>bindX (ql 2 2 c) fun t=>qay fuel t.2) (ym z0) z0:=by
  refine R1.bind (qgz (n:=2) oa oa oa) ?_;dsimp only;refine R1.bind B ?_;dsimp only;refine R1.bind C ?_;dsimp only;refine R1.bind E ?_;dsimp only;refine R1.bind F ?_;dsimp only;refine R1.bind (qgz (n:=z0.fl) ⟨by decide,by decide⟩ oa oa) ?_;dsimp only;refine R1.bind (qgz (n:=z0.fg) ⟨by decide,by decide⟩ oa oa) ?_;dsimp only;exact R1.last (qzO z0.fE) fun c=>rfl
 have u:=hR [] [] (by simpa using hl);simp only[jq,jv,ji]at u;rw[show((0:Nat):Int)=0 from rfl]at u;have H:qbt fuel (ym z0) 2=some (.inr (z0,0)):=by
  have hlen:((ym z0).length:Int)≠0:=by
   have:=qpZ.2;unfold ym;rw[ja];omega
  have I:(((ym z0).length:Int)==(0:Int))=false:=by simpa using hlen
  have r:decide (((ym z0).length:Int)<((ym z0).length:Int))=false:=decide_eq_false oa;unfold qbt;rw[qku u];rw[r,cond_false,w1,jb,I,cond_false]
 unfold qaW qew;rw[H];rfl
theorem zco{x:Int}(h:0≤x∧x<256):∃k:Nat,wr (Int.tmod (IntKind.i64.wrap x) 20)=(k:Int)∧k<20:=by
 have e:IntKind.i64.wrap x=x:=qex (n:=x) oa;rw[e];have b:Int.tmod x 20=x%20:=Int.tmod_eq_emod_of_nonneg h.1;rw[b,qex oa];exact⟨(x%20).toNat,by omega,by omega⟩
theorem qCD{fuel:Nat}{p:qf}{q:qbp}{n:Int×Int}(R:10000001000<fuel)(S:BkP p)(hq:∀g∈q.fK,wtL g.ts≤1048576)(hn:(0≤n.1∧n.1<256)∧0≤n.2∧n.2<256)(v:qaF fuel=some true):qaj fuel p q n=some true:=by
 suffices h:Yl (qaj fuel p q n) fun r=>r=true by
  obtain⟨r,P,rfl⟩:=h;exact P
 unfold qaj;refine Yl.bind ((qr4 S).to fun b1 w=>Yl.ite (fun _=>.ret rfl) fun P=>?_);obtain⟨P1,P2,P3⟩:=w (by simpa using P);have c:OcB p:=qw8 ⟨P1,P2⟩;refine Yl.bind ((qnI _ _ hq).to fun b2 A=>Yl.ite (fun _=>.ret rfl) fun h2=>?_);have hgl:=A (by simpa using h2);refine Yl.ite (fun _=>.ret rfl) fun U=>Yl.ite (fun _=>.ret rfl) fun h4=>?_;have U:=of_decide_eq_false U;have h4:=of_decide_eq_false h4;refine Yl.bind (Yl.val (qAp q.fK q.fJ oa) ?_);have runs:Yl ((qaF fuel).bind fun r=>some r) fun r=>r=true:=Yl.bind (Yl.val v (.ret rfl));refine Yl.bind ((qyC S hq oa).to fun b3 V=>Yl.ite (fun _=>runs) fun h5=>?_);have j:=V (by simpa using h5);have o:=qrt S;have C:=qCW (vars:=q.fJ) hq;have W:∀r∈p.fe,r.fF≤3200:=fun r hr=>by
  have P:=(j.ru r hr).vb;have h2:=(j.ru r hr).hd;have U:=P3 r hr;omega
 obtain⟨E,F,hn1⟩:=zco hn.1;obtain⟨Q,H,hn2⟩:=zco hn.2;have X:wr (wr (Int.tmod (IntKind.i64.wrap n.1) 20)+wr (Int.tmod (IntKind.i64.wrap n.2) 20))=((E+Q:Nat):Int):=by
  rw[F,H,qex oa];omega
 rw[X,F,H];have t:zaq p≤2147483648:=by
  have:=c.1;unfold zaq;rw[jh];omega
 obtain⟨I,J,Y,Z⟩:=qzT R j o c C (B:=3200) od W (n:=E) oa;refine Yl.bind (Yl.val J ?_);have K:=qqD (fuel:=fuel) oa j (qq1 j);have L:=qrW (fuel:=fuel) oa j (qq1 j);by_cases hR:ScOk p∧StO p (c0 q.fK q.fJ) (zaq p);obtain⟨u,L1,F1⟩:=Y hR;have hFr:I.1.fg≤65000:=by
  have:(c0 q.fK q.fJ).fg≤20:=by
   show zap q.fJ 0≤20;rw[qt2];omega
  have h5:(E:Int)*3200≤19*3200:=Int.mul_le_mul_of_nonneg_right oa od;omega
 have M:=qxq u hFr;refine Yl.bind (Yl.val (qzu oa t u M) (Yl.bind (Yl.val (qrQ oa t u M) (Yl.bind (Yl.val L (Yl.bind (Yl.val K ?_)))))));refine Yl.ite (fun h=>by cases h) fun _=>Yl.ite (fun h=>by cases h) fun _=>?_;refine Yl.bind (Yl.val (qv9 u.bg) (Yl.ite (fun h=>by cases h) fun _=>Yl.bind (Yl.val (qpd j) (Yl.ite (fun h=>by cases h) fun _=>?_))));refine Yl.ite (fun _=>runs) fun h6=>?_;have h6:I.2.2=15:=by simpa using h6
 obtain⟨r2,N,R2a,R2b⟩:=qzT R j o c u.bg (B:=3200) od W (n:=Q) oa;obtain⟨S2,L2,F2⟩:=R2a ⟨hR.1,u⟩;obtain⟨r3,O,R3a,R3b⟩:=qzT R j o c C (B:=3200) od W (n:=E+Q) oa;have hRa:qbO p I.1=some true:=by
  obtain⟨b,w,A⟩:=qxl o c u.bg;rw[w,A.2 ⟨hR.1,u⟩]
 have key:r3=(r2.1,I.2.1++r2.2.1,r2.2.2):=by
  refine qxQ (fuel:=fuel) (p:=p) (a:=I.1) (n:=E) (m:=Q) oa ?_ ?_ hRa O;rw[J,←h6];rw[N]
 refine Yl.bind (Yl.val N (Yl.bind (Yl.val O ?_)));rw[key];refine Yl.bind (Yl.val (qeL oe oe) (Yl.bind (Yl.val (qeL oe oe) ?_)));rw[jq];refine Yl.bind (Yl.val (qv9 S2.bg) (Yl.ite (fun _=>?_) fun h=>by cases h));dsimp only;rw[beq_self_eq_true,cond_true];exact Yl.bind (Yl.val (qy3 _) (Yl.ite (fun _=>runs) fun h=>by cases h));have e:=Z hR;rw[e];obtain⟨b,z1,z2⟩:=qBj fuel;refine Yl.bind (Yl.val z1 (Yl.bind (Yl.val z2 (Yl.bind (Yl.val L (Yl.bind (Yl.val K ?_)))))));refine Yl.ite (fun h=>by cases h) fun _=>Yl.ite (fun h=>by cases h) fun _=>?_;have hz:qaL z0 z0=some true:=qv9 ⟨(fun _ h=>by cases h),(fun _ h=>by cases h),(by show 0<1000000000;omega),(fun _ h=>by cases h)⟩;refine Yl.bind (Yl.val hz (Yl.ite (fun h=>by cases h) fun _=>Yl.bind (Yl.val (qpd j) (Yl.ite (fun h=>by cases h) fun _=>?_))));exact Yl.ite (fun _=>runs) fun h=>by cases h
theorem qz5:qaF 10000002000=some true:=by decide+kernel
end Go.Proofs.YtgcegilpajfdhaaGreat
namespace Go.Proofs.YtgcegilpajfdhaaGreat
open Go.Proofs.Tryz
set_option maxRecDepth 100000
open Go.ChangeShapes Go.WideShapes Go.ChangeAt Go.RowKit
def live(w:World)(a:Addr):Prop:=∃v,w.cell? a=some v
theorem qvU{w w':World}(e:Ext w w'):zE (live w) w (live w') w':=fun _⟨v,a⟩=>⟨⟨v,e.cellOf a⟩,by rw[a];exact e.cellOf a⟩
def Op(t:TypeId)(n:Nat)(S:D→Prop):Prop:=∀(H:Type)(enc:TypeId×Value→H)(W:World)(base:Nat)(sp:Nat→Bool)(hd:Bool)(fuel:Nat)(cs:List Value)(x:DataW H×List MemPlace), DataW.trod enc prog W base sp hd fuel t cs=some x→∃d v,S d∧d.plain=true∧sz d=n∧Rep (live W) W d v∧cs=v.cells.toList
theorem qCr{t:TypeId}(a:(prog).underlying t=some (.int .i64)):Op t 1 fun d=>∃n,d= .int .i64 n:=fun H enc W base sp hd fuel cs x b=>by
 obtain⟨k,rfl,_,w0⟩:=DataW.trod_int a b;have:=qCO w0;refine⟨.int .i64 k,.int .i64 k,⟨k,rfl⟩,rfl,rfl,?_,by simp[Value.cells]⟩;simp only[Rep];exact⟨trivial,wrap64 (by unfold I64 at this;omega)⟩
def Fits:List (D→Prop)→List D→Prop |[],[]=>True |S::a,d::ds=>S d∧Fits a ds |_,_=>False
def tight(P:Program):Nat→List Field→Bool |_,[]=>true |o,f::a=>f.offset==o&&tight P (o+P.cellsOf f.type) a
theorem qou{p:Addr→Prop}{w:World}:∀{ds:List D}{cs:List Value},zj p w ds cs→(∀d∈ds,d.plain=true)→∀u∈cs,u.oneCell'=true
 |[],cs,h,_,u,hu=>by simp only[zj]at h;subst h;simp at hu
 |d::ds,cs,h,a,u,hu=>by
  simp only[zj]at h;obtain⟨v,rest,rfl,b,c⟩:=h;rcases jl.1 hu with hu|hu
  exact b.one (a d (je ..)) u hu;exact qou c (fun e he=>a e (jp _ he)) u hu
def total(P:Program):List Field→Nat |[]=>0 |f::a=>P.cellsOf f.type+total P a
def layD(n:Nat)(hn:0<n)(S:D→Prop):Lay D where
 C:=fun w d cs=>S d∧d.plain=true∧sz d=n∧∃v,Rep (live w) w d v∧cs=v.cells.toList
 n:=n
 pos:=hn
 ext:=fun⟨g,c,f,v,a,b⟩ e=>⟨g,c,f,v,a.grow (qvU e),b⟩
 len:=fun⟨_,_,f,v,a,b⟩=>by rw[b,←f,←a.sz];simp
 one:=fun⟨_,c,_,v,a,b⟩ u hu=>by subst b;exact a.one c u hu
theorem qwt{n:Nat}{hn:0<n}{S:D→Prop}{w:World}:∀{l:List D}{xs:List Value},(layD n hn S).Ls w l xs→(∀d∈l,S d∧d.plain=true)∧zj (live w) w l xs
 |[],xs,h=>by
  have h:xs=[]:=h;subst h;exact⟨by simp,zj.nil _ _⟩
 |d::l,xs,⟨cs,ys,a,⟨b,c,_,v,f,g⟩,j⟩=>by
  obtain⟨m,o⟩:=qwt j;subst a g;refine⟨?_,zj.cons f o⟩;intro e he;rcases jx.1 he with rfl|he
  exact⟨b,c⟩;exact m e he
theorem qzY{w:World}{A:Option Addr}{xs:List Value}(h:Rd w A xs):RdP (live w) w A xs:=by
 rcases h with h|⟨ad,rfl,c⟩
 exact .inl h;by_cases he:xs=[]
 exact .inl he;have hlen:0<xs.length:=JS.2 he;have a:ad.spot=none:=by
  have:=qsr (c 0 _ (jj hlen));simpa[Addr.add]using this
 obtain⟨b,o,sp⟩:=ad;simp only at a;subst a;refine .inr ⟨b,o,rfl,fun j u hu=>?_⟩;have d:w.cell? ⟨b,o+j,none⟩=some u:=by have:=c j u hu;rwa [quC]at this
 exact⟨⟨u,d⟩,d⟩
theorem qty{α:Type}{f:α→D}:∀{l:List D},(∀x∈l,∃a,x=f a)→∃b:List α,l=b.map f
 |[],_=>⟨[],rfl⟩
 |d::l,h=>by
  obtain⟨a,rfl⟩:=h d (je ..);obtain⟨b,rfl⟩:=qty fun x c=>h x (jp _ c);exact⟨a::b,rfl⟩
def Cl(t:TypeId)(S:D→Prop):Prop:=∀(W:World)(b:Nat)(v:Value),Value.okWide prog W .any b t v→∀d,S d→v=ye d v.cells.toList
theorem Cl.to{t:TypeId}{S a:D→Prop}(h:Cl t a)(k:∀d,S d→a d):Cl t S:=fun W b v c d hd=>h W b v c d (k d hd)
theorem qsc{t:TypeId}{a:Array Field}(c:(prog).underlying t=some (.struct a)):Cl t fun d=>∃ds,d= .agg ds:=fun W b v e d⟨ds,hd⟩=>by
 obtain⟨cs,rfl,_⟩:=okWide_struct c e;subst hd;simp[Value.cells,ye]
theorem qCI{t:TypeId}(a:(prog).underlying t=some (.int .u8)):Op t 1 fun d=>∃n,d= .int .u8 n∧0≤n∧n≤255:=fun H enc W base sp hd fuel cs x b=>by
 obtain⟨k,rfl,_,w0⟩:=DataW.trod_int a b;have c:0≤k∧k≤255:=by
  have w1:=w0;simp[Lit.wf,IntKind.min,IntKind.max,IntKind.signed,IntKind.bits]at w1;omega
 refine⟨.int .u8 k,.int .u8 k,⟨k,rfl,c⟩,rfl,rfl,?_,by simp[Value.cells]⟩;simp only[Rep];exact⟨trivial,by simp only[IntKind.wrap,IntKind.bits,IntKind.signed];simp;omega⟩
mutual
def ya:D→Nat |.str s=>s.size+1 |.agg l=>zL l+1 |.lst l=>zL l+1 |_=>1
def zL:List D→Nat |[]=>0 |d::l=>ya d+zL l
end
def OpB(N:Nat)(t:TypeId)(n:Nat)(S:D→Prop):Prop:=∀(H:Type)(enc:TypeId×Value→H)(W:World)(base:Nat)(sp:Nat→Bool)(hd:Bool)(fuel:Nat)(cs:List Value)(x:DataW H×List MemPlace),fuel<N→ DataW.trod enc prog W base sp hd fuel t cs=some x→∃d v,S d∧d.plain=true∧sz d=n∧Rep (live W) W d v∧cs=v.cells.toList∧ya d≤Rows.uptoBulk x.1
theorem OpB.to{N:Nat}{t:TypeId}{n:Nat}{S a:D→Prop}(h:OpB N t n S)(k:∀d,S d→a d):OpB N t n a:=fun H enc W base sp hd fuel cs x b c=>by
 obtain⟨d,v,e,f⟩:=h H enc W base sp hd fuel cs x b c;exact⟨d,v,k d e,f⟩
theorem OpB.less{N M:Nat}{t:TypeId}{n:Nat}{S:D→Prop}(h:OpB N t n S)(b:M≤N):OpB M t n S:=fun H enc W base sp hd fuel cs x c a=>h H enc W base sp hd fuel cs x oa a
theorem qw1{H:Type}(d:DataW H):1≤Rows.uptoBulk d:=by
 cases d with
 |lit l=>cases l<;>simp[Rows.uptoBulk]
 |nil=>simp[Rows.uptoBulk]
 |ptr d=>simp[Rows.uptoBulk]
 |slice elems spare=>simp[Rows.uptoBulk]
 |agg parts=>simp[Rows.uptoBulk]
 |iface t d=>simp[Rows.uptoBulk]
 |map entries=>simp[Rows.uptoBulk]
 |held h=>simp[Rows.uptoBulk]
theorem qmg{N:Nat}{t:TypeId}(a:(prog).underlying t=some (.int .i64)):OpB N t 1 fun d=>∃n,d= .int .i64 n:=fun H enc W base sp hd fuel cs x _ b=>by
 obtain⟨d,v,⟨n,rfl⟩,c,e,f,g⟩:=qCr a H enc W base sp hd fuel cs x b;exact⟨_,v,⟨n,rfl⟩,c,e,f,g,by simp only[ya];exact qw1 _⟩
theorem qnV{N:Nat}{t:TypeId}(b:(prog).underlying t=some .string):OpB N t 1 fun d=>∃s,d= .str s:=fun H enc W base sp hd fuel cs x _ c=>by
 obtain⟨s,rfl,a,w0⟩:=DataW.trod_string b c;refine⟨.str s,.string s,⟨s,rfl⟩,rfl,rfl,?_,by simp[Value.cells],?_⟩;simp only[Rep];exact⟨trivial,by unfold maxLen at w0;omega⟩;rw[a];simp only[ya,Rows.uptoBulk];exact jf _
def OpsB(N:Nat):List Field→List (D→Prop)→Prop |[],[]=>True |f::a,S::b=>OpB N f.type ((prog).cellsOf f.type) S∧OpsB N a b |_,_=>False
theorem qmt{H:Type}{enc:TypeId×Value→H}{W:World}{base:Nat}{sp:Nat→Bool}{hd:Bool}{N n:Nat}(hn:n<N){cs:List Value}:
 ∀(a:List Field)(c:List (D→Prop))(o:Nat)(xs:List (DataW H×List MemPlace)),OpsB N a c→tight prog o a=true→o+total prog a=cs.length→xs.length=a.length→
  (∀(i:Nat)(f:Field),a[i]? =some f→DataW.trod enc prog W base sp hd n f.type ((cs.drop f.offset).take ((prog).cellsOf f.type))=xs[i]?)→
  ∃ds,Fits c ds∧(∀d∈ds,d.plain=true)∧szs ds=total prog a∧zj (live W) W ds (cs.drop o)∧zL ds≤Rows.uptoBulkAll (xs.map (·.1))
 |[],[],o,xs,_,_,hl,_,_=>⟨[],trivial,by simp,rfl,by simp only[total]at hl;rw[vo oa];exact zj.nil _ _,by simp[zL]⟩
 |f::a,S::c,o,x::xs,b,j,hl,hlen,l=>by
  simp only[tight,jk,beq_iff_eq]at j;simp only[total]at hl;obtain⟨ds,p,q,r,t,E⟩:=qmt hn a c (o+(prog).cellsOf f.type) xs b.2 j.2 oa (by simpa using hlen) fun i g u=>l (i+1) g u;have m:=l 0 f rfl;rw[j.1]at m;obtain⟨d,v,w,z,A,B,C,F⟩:=b.1 H enc W base sp hd n _ x hn m;refine⟨d::ds,⟨w,p⟩,?_,by simp only[szs,total,A,r],?_,?_⟩;intro e he;rcases jx.1 he with rfl|he
  exact z;exact q e he;have:=zj.cons B t;rw[←C,←List.drop_drop,j7]at this;exact this;simp only[zL,jm,Rows.uptoBulkAll];omega
 |_::_,_::_,_,[],_,_,_,h,_=>by simp at h
 |[],_::_,_,_,h,_,_,_,_=>h.elim
 |_::_,[],_,_,h,_,_,_,_=>h.elim
theorem qfS{N:Nat}{t:TypeId}{a:Array Field}{n:Nat}(g:(prog).underlying t=some (.struct a))(b:List (D→Prop))(hs:OpsB N a.toList b)(h:tight prog 0 a.toList=true)(q:total prog a.toList=n)(r:(prog).cellsOf t=n):
 OpB (N+1) t n fun d=>∃ds,d= .agg ds∧Fits b ds:=fun H enc W base sp hd fuel cs x u j=>by
 obtain⟨xs,m,hm,c,hl,hlen,l⟩:=DataW.trod_struct g j;obtain⟨ds,o,p,v,e,w⟩:=qmt (enc:=enc) (W:=W) (base:=base) (sp:=sp) (hd:=hd) (N:=N) (n:=m) oa (cs:=cs) a.toList b 0 xs hs h oa (by simpa using hlen) fun i f hi=>l i f (by simpa using hi);refine⟨.agg ds,.agg cs.toArray,⟨ds,rfl,o⟩,rfl,by simp only[sz];omega,?_,by simp[Value.cells],?_⟩
 · simp only[Rep]
   rw[vJ]at e;exact⟨cs,rfl,e,qou e p⟩
 · rw[c]
   simp only[ya,Rows.uptoBulk];omega
theorem zbm{n:Nat}{hn:0<n}{S:D→Prop}{w:World}{ad:Addr}(Q:Nat→D→Prop):∀(len:Nat),(∀i,i<len→∃a cs,Q i a∧(layD n hn S).C w a cs∧∀j,j<n→w.cell? (ad.add (i*n+j))=cs[j]?)→∃l xs,l.length=len∧(∀i d,l[i]? =some d→Q i d)∧(layD n hn S).Ls w l xs∧∀j u,xs[j]? =some u→w.cell? (ad.add j)=some u
 |0,_=>⟨[],[],rfl,by simp,Lay.Ls.nil w,by simp⟩
 |len+1,h=>by
  obtain⟨l,xs,b,p,f,q⟩:=zbm (hn:=hn) (S:=S) (w:=w) (ad:=ad) Q len fun i hi=>h i oa;obtain⟨a,cs,r,g,t⟩:=h len oa;refine⟨l++[a],xs++cs,by simp[b],fun i d hd=>?_,Lay.Ls.app f (Lay.Ls.single g),fun j u hu=>?_⟩;by_cases hi:i<l.length;rw[j3 hi]at hd;exact p i d hd;rw[vP oa]at hd;have hlt:=(jd.1 hd).1;simp at hlt;have e:i=len:=by omega
  subst e;rw[b,Nat.sub_self]at hd;injection hd with hd
  subst hd;exact r;have c:=Lay.Ls.len f;have c:xs.length=l.length*n:=c;by_cases m:j<xs.length;rw[j3 m]at hu;exact q j u hu;rw[vP oa]at hu;have hlt:=(jd.1 hu).1;rw[(layD n hn S).len g]at hlt;have o:=t (j-xs.length) hlt;rw[hu]at o;rw[←o,c,b];rw[c,b]at m;congr 2
  omega
theorem quJ{H:Type}:∀(l:List D)(es:List (DataW H)),l.length=es.length→(∀(i:Nat)(d:D),l[i]? =some d→∃e:DataW H,es[i]? =some e∧ya d≤Rows.uptoBulk e)→zL l≤Rows.uptoBulkAll es
 |[],es,_,_=>by simp[zL]
 |d::l,[],h,_=>by simp at h
 |d::l,e::es,h,b=>by
  obtain⟨c,a,g⟩:=b 0 d rfl;have a:e=c:=by simpa using a
  subst a;have:=quJ l es (by simpa using h) fun i x f=>by simpa using b (i+1) x (by simpa using f)
  simp only[zL,Rows.uptoBulkAll];omega
theorem qvC{N:Nat}{t e:TypeId}{n:Nat}{S:D→Prop}(q:(prog).underlying t=some (.slice e))(hn:(prog).cellsOf e=n)(r:0<n)(he:OpB N e n S):OpB (N+1) t 1 fun d=>∃l,d= .lst l∧∀x∈l,S x:=fun H enc W base sp hd fuel cs x R u=>by
 rcases DataW.trod_slice q u with⟨rfl,b⟩|⟨a,len,cap,elems,rest,m,U,rfl,b,_,hl,hm,hlen,f,_,_⟩
 refine⟨.lst [],.slice none 0 0,⟨[],rfl,by simp⟩,rfl,rfl,?_,by simp[Value.cells],by rw[b];simp[ya,zL,Rows.uptoBulk]⟩;simp only[Rep];exact⟨none,0,[],rfl,by simp,by omega,.inl rfl,zj.nil _ _,by simp⟩;obtain⟨l,xs,g,z,A,B⟩:=zbm (hn:=r) (S:=S) (w:=W) (ad:=a) (fun i d=>∃y,elems[i]? =some y∧ya d≤Rows.uptoBulk y.1) len fun i hi=>by
  have h:=f i hi;rw[jj oa,hn]at h;obtain⟨c,C,E⟩:=J3.1 h;obtain⟨d,v,F,G,I,J,K,L⟩:=he H enc W base sp hd m c _ oa E;obtain⟨_,V,M⟩:=World.cells?_some C;refine⟨d,c,⟨_,jj oa,L⟩,⟨F,G,I,v,J,K⟩,fun j O=>?_⟩;rw[←qul];exact M j O
 obtain⟨o,p⟩:=qwt A;refine⟨.lst l,.slice (some a) l.length cap,⟨l,rfl,fun d hd=>(o d hd).1⟩,rfl,rfl,?_,by rw[g];simp[Value.cells],?_⟩;simp only[Rep];exact⟨some a,cap,xs,rfl,by omega,by unfold maxLen at hm;omega,qzY (.inr ⟨a,rfl,B⟩),p,qou p fun d hd=>(o d hd).2⟩;rw[b];simp only[ya,Rows.uptoBulk];have:=quJ l (elems.map (·.1)) (by simp[g,hlen]) fun i d hd=>by
  obtain⟨y,P,Q⟩:=z i d hd;exact⟨y.1,by simp[P],Q⟩
 omega
theorem qjY{α:Type}{f:α→D}{N:Nat}{t e:TypeId}{n:Nat}(c:(prog).underlying t=some (.slice e))(hn:(prog).cellsOf e=n)(g:0<n)(he:OpB N e n fun d=>∃a,d=f a):OpB (N+1) t 1 fun d=>∃b:List α,d= .lst (b.map f):=
 (qvC c hn g he).to fun d⟨l,hl,h⟩=>by
  obtain⟨b,rfl⟩:=qty h;exact⟨b,hl⟩
theorem qtC:∀N,OpB N 77 4 fun d=>∃t,d=zg t
 |0=>fun H enc W base sp hd fuel cs x a=>by omega
 |N+1=>(qfS (N:=N) underlying77 [fun d=>∃n,d= .int .i64 n,fun d=>∃n,d= .int .i64 n,fun d=>∃s,d= .str s,fun d=>∃l:List T,d= .lst (l.map zg)] ⟨qmg underlying3,qmg underlying3,qnV underlying9,(qjY underlying62 qpg oa (qtC N)).less oa,trivial⟩ ob ob ob).to fun d⟨ds,hd,h⟩=>by
  match ds,h with
  |[_,_,_,_],⟨⟨k,rfl⟩,⟨i,rfl⟩,⟨s,rfl⟩,⟨l,rfl⟩,_⟩=>exact⟨.mk k i s l,by rw[hd,zg,qho];rfl⟩
theorem qqZ(N:Nat):OpB N 62 1 fun d=>∃l:List T,d= .lst (l.map zg):=(qjY underlying62 qpg oa (qtC N)).less oa
theorem qyT(N:Nat):OpB N 81 2 fun d=>∃a,d=zK a:=
 ((qfS (N:=N) underlying81 [fun d=>∃s,d= .str s,fun d=>∃l:List T,d= .lst (l.map zg)] ⟨qnV underlying9,qqZ N,trivial⟩ ob ob ob).less oa).to fun d⟨ds,hd,h⟩=>by
  match ds,h with
  |[_,_],⟨⟨s,rfl⟩,⟨l,rfl⟩,_⟩=>exact⟨⟨s,l⟩,hd⟩
theorem qrC(N:Nat):OpB N 57 1 fun d=>∃l:List At,d= .lst (l.map zK):=(qjY underlying57 ob oa (qyT N)).less oa
theorem qx1(N:Nat):OpB N 64 3 fun d=>∃g,d=zG g:=
 ((qfS (N:=N) underlying64 [fun d=>∃n,d= .int .i64 n,fun d=>∃s,d= .str s,fun d=>∃l:List T,d= .lst (l.map zg)] ⟨qmg underlying3,qnV underlying9,qqZ N,trivial⟩ ob ob qpn).less oa).to fun d⟨ds,hd,h⟩=>by
  match ds,h with
  |[_,_,_],⟨⟨n,rfl⟩,⟨s,rfl⟩,⟨l,rfl⟩,_⟩=>exact⟨⟨n,s,l⟩,hd⟩
theorem qnA(N:Nat):OpB N 26 1 fun d=>∃l:List Gl,d= .lst (l.map zG):=(qjY underlying26 qpn oa (qx1 N)).less oa
theorem qyz(N:Nat):OpB N 59 6 fun d=>∃r,d=qo r:=
 ((qfS (N:=N) underlying59 [fun d=>∃s,d= .str s,fun d=>∃l:List At,d= .lst (l.map zK),fun d=>∃l:List At,d= .lst (l.map zK),fun d=>∃l:List Gl,d= .lst (l.map zG),fun d=>∃l:List Gl,d= .lst (l.map zG),fun d=>∃n,d= .int .i64 n] ⟨qnV underlying9,qrC N,qrC N,qnA N,qnA N,qmg underlying3,trivial⟩ ob ob ob).less oa).to fun d⟨ds,hd,h⟩=>by
  match ds,h with
  |[_,_,_,_,_,_],⟨⟨s,rfl⟩,⟨a,rfl⟩,⟨b,rfl⟩,⟨c,rfl⟩,⟨e,rfl⟩,⟨n,rfl⟩,_⟩=>exact⟨⟨s,a,b,c,e,n⟩,hd⟩
theorem qwj(N:Nat):OpB N 23 1 fun d=>∃l:List qs,d= .lst (l.map qo):=(qjY underlying23 ob oa (qyz N)).less oa
theorem qyh(N:Nat):OpB N 79 2 fun d=>∃q,d=qH q:=
 ((qfS (N:=N) underlying79 [fun d=>∃s,d= .str s,fun d=>∃n,d= .int .i64 n] ⟨qnV underlying9,qmg underlying3,trivial⟩ ob ob ob).less oa).to fun d⟨ds,hd,h⟩=>by
  match ds,h with
  |[_,_],⟨⟨s,rfl⟩,⟨n,rfl⟩,_⟩=>exact⟨⟨s,n⟩,hd⟩
theorem qvJ(N:Nat):OpB N 22 1 fun d=>∃l:List S_api_Decl,d= .lst (l.map qH):=(qjY underlying22 ob oa (qyh N)).less oa
theorem qtu(N:Nat):OpB N 25 2 fun d=>∃q,d=qj q:=
 ((qfS (N:=N) underlying25 [fun d=>∃l:List S_api_Decl,d= .lst (l.map qH),fun d=>∃l:List qs,d= .lst (l.map qo)] ⟨qvJ N,qwj N,trivial⟩ ob ob ob).less oa).to fun d⟨ds,hd,h⟩=>by
  match ds,h with
  |[_,_],⟨⟨s,rfl⟩,⟨n,rfl⟩,_⟩=>exact⟨⟨s,n⟩,hd⟩
mutual
theorem qAe:∀t:T,wt t≤ya (zg t)
 |.mk k i s ar=>by
  have:=qmY ar;rw[zg,qho];simp only[ya,zL,wt,T.ar];omega
theorem qmY:∀l:List T,wtL l≤zL (l.map zg)
 |[]=>by simp[wtL]
 |t::l=>by
  have a:=qAe t;have b:=qmY l;simp only[wtL,jm,zL];omega
end
theorem qgB{α:Type}{f:α→D}{a:α}:∀{l:List α},a∈l→ya (f a)≤zL (l.map f)
 |b::l,h=>by
  simp only[jm,zL];rcases jx.1 h with rfl|h
  omega;have:=qgB (f:=f) h;omega
theorem qxg{a:At}(h:ya (zK a)≤1048576):wtL a.ts≤1048576:=by
 have:=qmY a.ts;simp only[zK,ya,zL]at h;omega
theorem qsA{g:Gl}(h:ya (zG g)≤1048576):wtL g.ts≤1048576:=by
 have:=qmY g.ts;simp only[zG,ya,zL]at h;omega
theorem qvI{p:qf}(h:ya (qj p)≤1048576):∀r∈p.fe,(∀a∈r.fm,wtL a.ts≤1048576)∧(∀a∈r.ft,wtL a.ts≤1048576)∧(∀g∈r.fu,wtL g.ts≤1048576)∧∀g∈r.fx,wtL g.ts≤1048576:=fun r hr=>by
 simp only[qj,ya,zL]at h;have c:=qgB (f:=qo) hr;simp only[qo,ya,zL]at c;refine⟨fun a b=>?_,fun a b=>?_,fun a b=>?_,fun a b=>?_⟩;have:=qgB (f:=zK) b;exact qxg oa;have:=qgB (f:=zK) b;exact qxg oa;have:=qgB (f:=zG) b;exact qsA oa;have:=qgB (f:=zG) b;exact qsA oa
structure zbT where
 t:TypeId
 n:Nat
 S:D→Prop
 op:∀N,OpB N t n S
 cl:Cl t S
def zce:zbT:=⟨_,_,_,qtu,(qsc underlying25).to fun _⟨_,h⟩=>⟨_,h⟩⟩
theorem qpj{H:Type}{enc:TypeId×Value→H}{W:World}{base b:Nat}{sp:Nat→Bool}{hd:Bool}:∀(c:List zbT)(f:List Value)(ds:List (DataW H))(ps:List MemPlace),
 DataW.TrodAll enc prog W base sp hd (c.map zbT.t) f ds ps→(∀(j:Nat) t v,(c.map zbT.t)[j]? =some t→f[j]? =some v→Value.okWide prog W .any b t v)→∃es,Fits (c.map zbT.S) es∧zB (live W) W es f∧zL es≤Rows.uptoBulkAll ds
 |[],f,ds,ps,h,_=>by
  obtain⟨rfl,rfl,_⟩:=trodAll_nil h;exact⟨[],trivial,zB.nil _ _,by simp[zL]⟩
 |a::c,f,ds,ps,h,m=>by
  obtain⟨v,g,d,l,p,q,rfl,rfl,rfl,⟨fuel,z⟩,A⟩:=trodAll_cons h;obtain⟨es,B,C,G⟩:=qpj c g l q A fun j t u E hu=>m (j+1) t u E hu;obtain⟨e,u,n,I,J,o,F,r⟩:=a.op (fuel+1) H enc W base sp hd fuel _ _ oa z;have w:=a.cl W b v (m 0 a.t v rfl rfl) e n;have x:=o.back;rw[←F]at x;rw[←x]at w;subst w;refine⟨e::es,⟨n,B⟩,zB.cons o C,?_⟩;simp only[zL,Rows.uptoBulkAll];have r:ya e≤Rows.uptoBulk d:=r;omega
def zbM(k:FuncId)(F:Func):Prop:=∀(H:Type)(enc:TypeId×Value→H)(W:World)(base:Nat)(args:Array Value)(ds:List (DataW H))(p:List MemPlace), (∀(j:Nat) t v,F.params[j]? =some t→args[j]? =some v→Value.okWide prog W .any base t v)→DataW.TrodAll enc prog W 0 (fun _=>true) true F.params.toList args.toList ds p→Rows.uptoSmall H ds=true→ Calls prog k args W (Ret W (Is (.bool true)))
theorem qwQ{k:FuncId}{F:Func}(f:List zbT)(l:F.params.toList=f.map zbT.t)(n:∀es,Fits (f.map zbT.S) es→zL es≤1048576→zf prog k es (.bool true)):zbM k F:=by
 intro H enc W base args ds p c m o;rw[l]at m;obtain⟨es,r,u,w⟩:=qpj (b:=base) f args.toList ds p m fun j t v x z=>c j t v (by rw[←vc,l];exact x) (by simpa using z);have g:Rows.uptoBulkAll ds≤1048576:=of_decide_eq_true o;have A:Inv (ctx W (live W) []) (live W) [] W:=⟨by simp,by simp[yl],by simp[yl],fun a h=>h,zE.refl _ _,fun a h=>.inl h,rfl,rfl,rfl,jf _,fun b _ _=>rfl⟩
 refine(n es r (vG w g) W (live W) args.toList A u).mono ?_;rintro e w' (⟨v,d,σ,q,rfl,rfl,hr,hi⟩|⟨_,_,_,_,_,B,_⟩);rotate_left
 exact B.elim;simp only[Rep]at hr;subst hr;exact Ret.mk rfl ⟨hi.os,hi.tape,hi.output,hi.size,fun b hb=>hi.block b hb (by simp[ctx,yl])⟩
theorem qpG{k:FuncId}{F:Func}(h:zbM k F){s:ChangeSpec}(u:s.vars=[])
 (c:(F.params.toList.all fun t=>(prog).readableRec t&&decide (t<(prog).types.size))=true) (d:F.resultTypes.toList=[4]) (m:F.resultTypes.size=1)
 (n:∀(H:Type)(ds:List (DataW H)),ds.length=F.params.toList.length→s.fn H ds={results:=[.lit (.bool true)],args:=ds})
 {H:Type} {enc:TypeId×Value→H} (W:World) (base:Nat) (args:Array Value) (ds gs:List (DataW H)) (before:List MemPlace)
 (f:∀(j:Nat) t v,F.params[j]? =some t→args[j]? =some v→Value.okWide prog W .any base t v)
 (w:DataW.Whole enc prog F.params.toList s.vars false W args.toList ds gs before) (z:Rows.uptoSmall H (ds++gs)=true):
 Calls prog k args W fun e A=>∃v,e= .returned v∧s.post enc prog F false true false false W args v A:=by
 have o:∀t∈F.params.toList,(prog).readableRec t=true∧t<(prog).types.size:=fun t C=>by
  have:=jD.1 c t C;simpa using this
 have g:=w;obtain⟨p,q,r,B,rfl,E,G⟩:=w;rw[u]at B;obtain⟨rfl,rfl⟩:=trodVars_none B;rw[jv]at z;refine(h H enc W base args ds p f r z).mono ?_;rintro e A ⟨v,rfl,b,hb⟩;have b:v= .bool true:=b;subst b;have hlen:=qoc r;have a:=n H ds hlen;refine⟨_,rfl,ds,[],p++[],[],p,[],g,?_,?_,?_,?_,fun h=>by cases h⟩
 · rw[jv,a,d,m]
   exact trodAll_cons_mk (shut_bool underlying4 _) trodAll_mk0
 · rw[jv,a]
   exact qlx qDc hb o (fun x l=>g.lt x (by simpa using l)) r
 · rw[jv,a,u];rfl
 · exact World.keptBut_mono (fun x l=>⟨by simpa using l,.inr (.inl (by simpa using l))⟩) (Below.frame hb (fun x=>x∈p))
theorem qiu:∀l:List D,l.length≤zL l
 |[]=>jf _
 |d::l=>by
  have:=qiu l;have:1≤ya d:=by cases d<;>simp[ya]
  rw[jg,zL];omega
theorem qwB(N:Nat):OpB N 28 2 fun d=>∃q,d=qaB q:=
 ((qfS (N:=N) underlying28 [fun d=>∃l:List Gl,d= .lst (l.map zG),fun d=>∃n,d= .int .i64 n] ⟨qnA N,qmg underlying3,trivial⟩ ob ob ob).less oa).to fun d⟨ds,hd,h⟩=>by
  match ds,h with
  |[_,_],⟨⟨l,rfl⟩,⟨n,rfl⟩,_⟩=>exact⟨⟨l,n⟩,hd⟩
theorem qxV{P:Program}{H:Type}{enc:TypeId×Value→H}{w:World}{base:Nat}{spare:Nat→Bool}{held:Bool}{fuel:Nat}{t e:TypeId}{n:Nat}{cs:List Value}{x:DataW H×List MemPlace}(a:P.underlying t=some (.array n e))(h:DataW.trod enc P w base spare held fuel t cs=some x):
 ∃(xs:List (DataW H×List MemPlace))(m:Nat),fuel=m+1∧x=(.agg (xs.map (·.1)),xs.flatMap (·.2))∧cs.length=P.cellsOf t∧(List.range n).mapM (fun i=>DataW.trod enc P w base spare held m e ((cs.drop (i*P.cellsOf e)).take (P.cellsOf e)))=some xs:=by
 cases fuel with
 |zero=>simp[DataW.trod]at h
 |succ m=>
  unfold DataW.trod at h;rw[a]at h;split at h<;>simp_all
  rename_i c
  obtain⟨hl,xs,b,rfl⟩:=h;exact⟨xs,rfl,b⟩
theorem qAW(N:Nat):OpB N 29 2 fun d=>∃n:Int×Int,d=zbg n∧(0≤n.1∧n.1<256)∧0≤n.2∧n.2<256:=fun H enc W base sp hd fuel cs x F t=>by
 obtain⟨xs,m,hm,o,hl,f⟩:=qxV underlying29 t;have u:(prog).cellsOf 29=2:=by kernel_rfl
 have v:(prog).cellsOf 5=1:=by kernel_rfl
 rw[u]at hl;obtain⟨c0,p,rfl⟩:∃c0 p,cs=[c0,p]:=by
  match cs,hl with
  |[a,b],_=>exact⟨a,b,rfl⟩
 rw[v]at f;have hr:List.range 2=[0,1]:=rfl;rw[hr]at f;simp only[List.mapM_cons,List.mapM_nil,Option.bind_eq_bind,J3,Option.pure_def,Option.some.injEq]at f;obtain⟨q,w,_,⟨r,z,_,rfl,rfl⟩,rfl⟩:=f;obtain⟨d0,v0,⟨e,rfl,A⟩,_,_,B,g⟩:=qCI underlying5 H enc W base sp hd m _ q w;obtain⟨d1,v1,⟨c,rfl,C⟩,_,_,E,h⟩:=qCI underlying5 H enc W base sp hd m _ r z;simp only[Nat.zero_mul,vJ,vQ,vY,vx,List.drop_succ_cons]at g h;have j:=B;have l:=E;simp only[Rep]at j l;obtain⟨rfl,j⟩:=j;obtain⟨rfl,l⟩:=l;have g:c0= .int .u8 e:=by simpa[Value.cells]using g
 have h:p= .int .u8 c:=by simpa[Value.cells]using h
 subst g h;refine⟨zbg (e,c),.agg #[.int .u8 e,.int .u8 c],⟨(e,c),rfl,⟨A.1,by omega⟩,C.1,by omega⟩,rfl,rfl,?_,by simp[Value.cells],?_⟩;simp only[zbg,Rep,zj];exact⟨[.int .u8 e,.int .u8 c],rfl,⟨.int .u8 e,[.int .u8 c],by simp[Value.cells],⟨rfl,j⟩,.int .u8 c,[],by simp[Value.cells],⟨rfl,l⟩,rfl⟩,by simp[Value.oneCell']⟩;rw[o];have:=qw1 q.1;have:=qw1 r.1;simp only[zbg,ya,zL,jm,jU,Rows.uptoBulk,Rows.uptoBulkAll];omega
theorem qxN{t e:TypeId}{n:Nat}(c:(prog).underlying t=some (.array n e)):Cl t fun d=>∃ds,d= .agg ds:=fun W b v a d⟨ds,hd⟩=>by
 simp only[Value.okWide,c]at a;obtain⟨cs,rfl,_⟩:=a;subst hd;simp[Value.cells,ye]
def bQuery:zbT:=⟨_,_,_,qwB,(qsc underlying28).to fun _⟨_,h⟩=>⟨_,h⟩⟩
def bTwo:zbT:=⟨_,_,_,qAW,(qxN underlying29).to fun _⟨_,h,_⟩=>⟨_,h⟩⟩
theorem qBR{p:qf}(h:ya (qj p)≤1048576):BkP p:=by
 have hb:=qvI h;simp only[qj,ya,zL]at h;have m1:=qiu (p.fD.map qH);have j:=qiu (p.fe.map qo);rw[jh]at m1 j;refine⟨fun r hr=>?_,fun d hd=>?_,by omega,by omega⟩;obtain⟨l,m,n,o⟩:=hb r hr;have e:=qgB (f:=qo) hr;simp only[qo,ya,zL]at e;have q:=qiu (r.fm.map zK);have l2:=qiu (r.ft.map zK);have t:=qiu (r.fu.map zG);have u:=qiu (r.fx.map zG);rw[jh]at q l2 t u;refine⟨fun a b=>?_,fun g c=>?_,⟨by omega,by omega,by omega,by omega⟩,by omega⟩;rcases jl.1 b with b|b
 exact l a b;exact m a b;rcases jl.1 c with c|c
 exact n g c;exact o g c;have e:=qgB (f:=qH) hd;simp only[qH,ya,zL]at e;omega
theorem qlI(p:qf)(q:qbp)(n:Int×Int)(a:ya (qj p)≤1048576)(hq:ya (qaB q)≤1048576)(hn:(0≤n.1∧n.1<256)∧0≤n.2∧n.2<256):zf prog 3 [qj p,qaB q,zbg n] (.bool true):=
 qeB 10000002000 p q n true (qCD oa (qBR a) (fun g b=>by
  simp only[qaB,ya,zL]at hq;have c:=qgB (f:=zG) b;exact qsA (g:=g) oa) hn qz5)
end Go.Proofs.YtgcegilpajfdhaaGreat
