/-
 Texts of the seat,merged.
-/
import Derived.Test.YtgcegilpajfdhaaGreatLTD
set_option linter.unusedVariables false
set_option linter.unusedSimpArgs false
set_option linter.unnecessarySimpa false
set_option linter.all false
set_option maxHeartbeats 8000000
namespace Go.Proofs.YtgcegilpajfdhaaGreat
open Go.Proofs.Tryz
noncomputable section
set_option maxRecDepth 100000
open Go.RowKit
section
variable{P:Program}{f:FuncId}{fn:Func}{K:Ctx}{R:D→St→Prop}{k:List Item}{env:Env}{σ τ:St}{p:Addr→Prop}{w:World}
theorem qqx{o o':Ob}{b:Nat}{x:Obj}(c:Obj)(h:Inv K p (o::σ) w)(hb:o.blk=some b)(l:o'.blk=some b)(t:w.heap[b]? =some x)(u:x.isCells=false)
 (z:(w.putObj b c).heap[b]? =some c→zE p w p (w.putObj b c)→zbb p (w.putObj b c) o'):Inv K p (o'::σ) (w.putObj b c)∧zE p w p (w.putObj b c):=by
 have m:∀a,p a→a.block≠b:=fun a d e=>by
  obtain⟨v,n⟩:=h.pub a d;obtain⟨y,hy,q⟩:=cells_of_cell n;rw[e,t]at hy;injection hy with hy
  rw[hy,q]at u;cases u
 have g:zE p w p (w.putObj b c):=fun a d=>⟨d,qdy (World.putObj_heap_other (m a d))⟩
 have r:(w.putObj b c).heap[b]? =some c:=World.putObj_heap_same (jL.1 t).1;refine⟨h.write hb l g (fun a d=>.inl d) (z r g) (fun a d=>?_) rfl rfl rfl og (fun j A=>World.putObj_heap_other A),g⟩;obtain⟨v,n⟩:=h.pub a d;exact⟨v,(g a d).2.trans n⟩
def zbJ(P:Program)(l:Nat)(ds:List D)(σ:St)(R:D→St→Prop):Prop:= ∀(w:World)(p:Addr→Prop)(a:List Value),Inv (ctx w p σ) p σ w→zB p w ds a→ ∃g tmps assign body,(Instr.yield l a.toArray).run P w= .ok (.round l g tmps assign body) w∧ ∀(c:Frame)(cs:List Frame),∃v w',Left (ctx w p σ) R (.returned v) w'∧Steps P (lone (Frame.round l g tmps assign body .normal) (c::cs) w) (lone (c.finish v) cs w')
theorem zau{f:FuncId}{ds:List D}{R c:D→St→Prop}(h:Spec P f ds σ R)(hR:∀d σ',R d σ'→c d σ'):Spec P f ds σ c:=fun w p g hi j=>(h w p g hi j).mono fun e w' hl=>by
 rcases hl with⟨v,d,σ',q,rfl,a,b,l⟩|⟨v,d,σ',q,rfl,a,b⟩
 exact .inl ⟨v,d,σ',q,rfl,hR d σ' a,b,l⟩;exact .inr ⟨v,d,σ',q,rfl,a,b⟩
theorem zN{α:Type}(a b c:α):[a,b,c].Perm [c,a,b]:=vH (l₁:=[a,b]) (l₂:=[c])
theorem qtr{o:Oper}{ρ:Operand→Option D}{l:Nat}{x:Operand}{args:Array Operand}{n:Array TypeId}{σ1:St}(τ:St){ds:List D}(j:o.op= .call {callee:=.value x,args:=args,argTypes:=n})(z:ρ x=some (.clo (.yield l) [] []))(A:yZ ρ args.toList ds)(q:σ.Perm (σ1++τ))(B:zbJ P l ds σ1 R):za5 P o ρ σ fun d σ'=>∃σ1',R d σ1'∧σ'=σ1'++τ:=fun rd K p a w hi h=>by
 have C:=A.rep (p:=p) (w:=w) (a:=a) fun y hy=>h y (by rw[j];simp only[Op.operands,Call.operands];exact vI.2 (.inr (by simpa using hy)));have m:=h x (by rw[j];simp[Op.operands,Call.operands]) _ z;simp only[Rep]at m;obtain⟨N,O,m,r,t⟩:=m;simp only[zB]at r t;subst r t;obtain⟨g,tmps,assign,body,hy,hR⟩:=B w p _ ((hi.perm q).enter) C;refine⟨fun f _=>ql0 _ f,?_⟩;have e:(o.semAt (fw rd).round a.eval).run P w= .ok (.round l g tmps assign body) w:=by
  rw[Oper.semAt_eq _ _ _ fun c u=>by rw[j]at u;cases u];unfold execOp;rw[j];simp only[resolve,m,Deferred.ofValue,Sem.run_bind,Sem.run_pure,Result.andThen_ok,invoke];rw[show(#[]++args.map a.eval:Array Value)=(args.toList.map a.eval).toArray by apply jY.1;simp];exact hy
 rw[e];refine⟨fun h=>?_,ql0 _ _,fun c cs _=>?_⟩;cases rd<;>cases h
 obtain⟨v,w',E,hs⟩:=hR c cs;refine⟨.returned v,w',?_,qph hs⟩;obtain⟨v1,b,F,d,σ',G,H,I,J,L,M⟩:=qrL (a:=a) (dst:=o.dst) hi q E;injection b with b
 subst b;exact⟨F,d,σ',G,H,I,J,L,M⟩
def zaW:Env→List Tmp→List D→Env |env,t::ts,d::ds=>zaW ((t,d)::env) ts ds |env,_,_=>env
theorem qo9:∀(ts:List Tmp)(ds:List D)(b:List Value)(env:Env)(tm:Array Value),zB p w ds b→ts.length=ds.length→(∀t∈ts,t<tm.size)→zD p w env {tmps:=tm,defers:=[]}→
 zD p w (zaW env ts ds) {tmps:=(ts.zip b).foldl (fun tmps(t,a)=>tmps.setIfInBounds t a) tm,defers:=[]}∧((ts.zip b).foldl (fun tmps(t,a)=>tmps.setIfInBounds t a) tm).size=tm.size
 |[],[],_,env,tm,_,_,_,h=>⟨by simpa[zaW]using h,by simp⟩
 |t::ts,d::ds,b,env,tm,g,hl,j,h=>by
  simp only[zB]at g;obtain⟨v,rest,rfl,m,n⟩:=g;simp only[zaW,List.zip_cons_cons,vj];have o:zD p w ((t,d)::env) {tmps:=tm.setIfInBounds t v,defers:=[]}:=h.put (dst:=some t) m (fun l e=>by injection e with e;subst e;exact j t (je ..));obtain⟨q,r⟩:=qo9 ts ds rest _ _ n (by simpa using hl) (fun l c=>by simpa using j l (jp _ c)) o;exact⟨q,by rw[r];simp⟩
 |[],_::_,_,_,_,_,hl,_,_=>by cases hl
 |_::_,[],_,_,_,_,hl,_,_=>by cases hl
theorem qqP{l:Nat}{m:Env}{L:Loop}{ds:List D}{e:Func}(g:L.params.toList.length=ds.length)(q:P.funcs[L.fn]? =some e)(n:e.ntmps≤L.tmps.size)(hlt:L.params.toList.all (fun t=>decide (t<e.ntmps))=true)
 (h:∀K,(K.F0=fun b=>b∈yl (.loop l m L::σ))→ze ⟨some l,[],[],.normal⟩ P L.fn e K R [.code L.assign,.beginRound,.code L.body] (zaW m L.params.toList ds) (.loop l m L::σ)):zbJ P l ds (.loop l m L::σ) R:=fun w p j hi o=>by
 obtain⟨x,z⟩:=hi.ok _ (je ..);have hlen:j.length=ds.length:=by
  clear h g hi x z;induction ds generalizing j with
  |nil=>simp only[zB]at o;subst o;rfl
  |cons d ds A=>
   simp only[zB]at o;obtain⟨v,rest,rfl,_,r⟩:=o;simp[A rest r]
 refine⟨L.fn,_,L.assign,L.body,run_yield x (by simpa[hlen]using g.symm),fun c cs=>?_⟩;obtain⟨B,r⟩:=qo9 (p:=p) (w:=w) L.params.toList ds j m L.tmps o g (fun t C=>vi (by simpa using jD.1 hlt t C) n) z;let b:Frame:={(default:Frame)with fn:=L.fn,kind:=.normal,roundOf:=some l}
 have E:(L.params.zip j.toArray).foldl (fun tmps(t,a)=>tmps.setIfInBounds t a) L.tmps=(L.params.toList.zip j).foldl (fun tmps(t,a)=>tmps.setIfInBounds t a) L.tmps:=by
  rw[←Array.foldl_toList];simp
 rw[E];have u:Frame.round l L.fn ((L.params.toList.zip j).foldl (fun tmps(t,a)=>tmps.setIfInBounds t a) L.tmps) L.assign L.body .normal=b.atR {tmps:=(L.params.toList.zip j).foldl (fun tmps(t,a)=>tmps.setIfInBounds t a) L.tmps,defers:=[]} [.code L.assign,.beginRound,.code L.body]:=by
  simp[Frame.round,Frame.atR,b]
 rw[u];exact h (ctx w p _) rfl p _ w hi B (by rw[r];exact n) rfl b (c::cs) rfl rfl rfl q c cs rfl
theorem qpJ{l:Nat}{ms:List Nat}{e:Env}{L:Loop}(hr:L.state= .ready)(n:σ.Perm (.loop l e L::τ))(h:ze ⟨some l,ms,[],.normal⟩ P f fn K R k env (.loop l e {L with state:=.busy}::τ)):ze ⟨some l,ms,[],.normal⟩ P f fn K R (.beginRound::k) env σ:=fun p a w hi g hn hd b cs hb o c q=>by
 have hi:=hi.perm n;obtain⟨m,r⟩:=hi.ok _ (je ..);obtain⟨u,j⟩:=qqx (o':=.loop l e {L with state:=.busy}) (.loop {L with state:=.busy}) hi rfl rfl m rfl fun h j=>⟨h,fun t d v=>(r t d v).grow j⟩
 exact .of_steps (.one (stepR_beginRound c (run_beginRound m hr))) (h p a _ u (g.grow j) hn hd b cs hb o c q)
theorem qoQ{l:Nat}{ms:List Nat}{e:Env}{L:Loop}(n:σ.Perm (.loop l e L::τ))(h:R (.bool true) (.loop l e {L with state:=.ready,pending:=none}::τ)):ze ⟨some l,ms,[],.normal⟩ P f fn K R [] env σ:=fun p a w hi o hn hd b cs hb q g A c r u=>by
 subst u;have hi:=hi.perm n;obtain⟨j,v⟩:=hi.ok _ (je ..);obtain⟨x,m⟩:=qqx (o':=.loop l e {L with state:=.ready,pending:=none}) (.loop {L with state:=.ready,pending:=none}) hi rfl rfl j rfl fun h m=>⟨h,fun t d z=>(v t d z).grow m⟩
 exact⟨.bool true,_,.inl ⟨_,_,_,p,rfl,h,by simp only[Rep],x⟩,.one (stepR_round_end g q (run_endRound none j))⟩
def zbf(f:FuncId)(tmps:Array Value)(ps:Array Tmp)(assign body:Code)(D:Nat):Loop:={state:=.ready,pending:=none,fn:=f,tmps,params:=ps,assign,body,defers:=D}
def mark(D:Nat):Ob:=.aux D (.deferred (some []))
theorem qiT{g:Operand}{ps:Array Tmp}{assign body:Code}{gf:FuncId}{cap:List D}{ms:List Nat}(J:Option Code→St→Prop){σ1:St}(τ:St)(Z:ev env g=some (.clo (.func gf) [] cap))(ho:zaV g=true)(hc:callee P gf)(hσ:σ.Perm (σ1++τ))
 (hS:∀(l D:Nat)(tmps:Array Value),fn.ntmps≤tmps.size→Spec P gf (.clo (.yield l) [] []::cap) (.loop l env (zbf f tmps ps assign body D)::σ1) fun _ σ'=>∃st jump σ1',st≠.busy∧σ'= .loop l env {zbf f tmps ps assign body D with state:=st,pending:=jump}::σ1'∧J jump σ1')
 (hk:∀D jump σ1',J jump σ1'→ze ⟨none,D::ms,[],.normal⟩ P f fn K R ((jump.map Item.code).toList++k) env (mark D::(σ1'++τ))):ze ⟨none,ms,[],.normal⟩ P f fn K R (.code (.rangeFunc g ps assign body)::k) env σ:=fun p a w hi r hn hd b cs hb N C hf=>by
 have j:=qzl r Z ho;simp only[Rep]at j;obtain⟨fs,lb,j,E,O⟩:=j;simp only[zB]at E;subst E;obtain⟨W1,c⟩:∃W1,(w.alloc (.deferred (some []))).alloc (.loop (zbf f a.tmps ps assign body w.heap.size))=W1:=⟨_,rfl⟩
 have Q:W1.heap[w.heap.size+1]? =some (.loop (zbf f a.tmps ps assign body w.heap.size)):=by
  rw[←c];have:=World.alloc_heap_new (w.alloc (.deferred (some []))) (.loop (zbf f a.tmps ps assign body w.heap.size));rwa [World.size_alloc]at this
 have S:W1.heap[w.heap.size]? =some (.deferred (some [])):=by
  rw[←c];exact(Below.heap_alloc _ _ _ og).trans (World.alloc_heap_new w _)
 have u:zE p w p W1:=by
  rw[←c];exact(qaw hi.pub _).tr (qaw (hi.alloc _).pub _)
 have U:Inv K p σ W1:=by rw[←c];exact(hi.alloc _).alloc _
 have q:∀x,x∈yl σ→x<w.heap.size:=fun x z=>hi.lt z;have V:Inv K p (mark w.heap.size::σ) W1:=U.more (o:=mark w.heap.size) S fun x z=>by
  simp only[mark,Ob.blk,Option.some.injEq]at z;subst z;exact⟨.inl hi.size,fun h=>absurd (q _ h) (JI _)⟩
 have F:Inv K p (.loop (w.heap.size+1) env (zbf f a.tmps ps assign body w.heap.size)::mark w.heap.size::σ) W1:=V.more ⟨Q,fun t d ht=>(r t d ht).grow u⟩ fun x z=>by
  simp only[Ob.blk,Option.some.injEq]at z;subst z;refine⟨.inl (Nat.le_succ_of_le hi.size),fun h=>?_⟩;simp only[yl,vt,mark,Ob.blk]at h;rcases jx.1 h with h|h
  · omega
  · exact absurd (q _ h) oa
 have G:(.loop (w.heap.size+1) env (zbf f a.tmps ps assign body w.heap.size)::mark w.heap.size::σ:St).Perm ((.loop (w.heap.size+1) env (zbf f a.tmps ps assign body w.heap.size)::σ1)++(mark w.heap.size::τ)):=by
  refine List.Perm.cons _ ?_;refine(List.Perm.cons _ hσ).trans ?_;exact(JW (l₁:=σ1) (l₂:=τ) (a:=mark w.heap.size)).symm
 have A:=hS (w.heap.size+1) w.heap.size a.tmps hn W1 p (.func (.yield (w.heap.size+1)) #[] #[]::lb) ((F.perm G).enter) (by
  simp only[zB];exact⟨_,_,rfl,by simp only[Rep];exact⟨[],[],rfl,zB.nil _ _,zB.nil _ _⟩,O.grow u⟩)
 obtain⟨e,w',fr,hL,m,hfn,n⟩:=A (b.atR {a with defers:={target:=.collected w.heap.size,args:=#[]}::a.defers} (.inRangeFunc (w.heap.size+1)::k)::cs);obtain⟨v,d,σ',Y,rfl,⟨st,jump,σ1',W,rfl,hJ⟩,hv,H⟩:=hL.resolve_right fun⟨_,_,_,_,_,h,_⟩=>h;have B:=stepR_rangeFunc (P:=P) (b:=b) (a:=a) (k:=k) (cs:=cs) (w:=w) (g:=g) (ps:=ps) (assign:=assign) (body:=body) (l:=w.heap.size+1) (mark:=[{target:=.collected w.heap.size,args:=#[]}]) (w₁:=W1) (w₁':=W1) (w₂:=W1) (d:={target:=.fn (.func gf) lb.toArray,args:=#[.func (.yield (w.heap.size+1)) #[] #[]]}) (f:=gf) (args:=(.func (.yield (w.heap.size+1)) #[] #[]::lb).toArray)
  (by rw[←c,C,hb];exact run_enterLoop_outer _ _ _ _ _)
  (by simp only[resolve,j];simp[go_sem])
  (by
   simp only[invoke];rw[qdn hc];congr 2
   apply jY.1;simp)
 have I:=(F.perm G).leave H;obtain⟨L,hE4⟩:=I.ok _ (je ..);obtain⟨h5,X⟩:=qqx (o':=.aux (w.heap.size+1) (.loop {zbf f a.tmps ps assign body w.heap.size with state:=.exhausted,pending:=jump})) (.loop {zbf f a.tmps ps assign body w.heap.size with state:=.exhausted,pending:=jump}) I rfl rfl L rfl fun h _=>h;have M:=stepR_endRangeFunc (P:=P) (b:=b) (a:={a with defers:={target:=.collected w.heap.size,args:=#[]}::a.defers}) (k:=k) (cs:=cs) (w:=w') (run_endLoop L W);refine .of_steps (w1:=w'.putObj (w.heap.size+1) (.loop {zbf f a.tmps ps assign body w.heap.size with state:=.exhausted,pending:=jump})) (fr1:=b.atR {a with defers:={target:=.collected w.heap.size,args:=#[]}::a.defers} ((jump.map Item.code).toList++k)) ?_ (hk w.heap.size jump σ1' hJ Y {a with defers:={target:=.collected w.heap.size,args:=#[]}::a.defers} _ ?_ ?_ hn ?_ b cs hb N C hf)
 · refine(Steps.one B).trans (Steps.trans m ((Steps.one (step_leave_returned n)).trans ?_))
   rw[finish_atR_inRangeFunc];exact Steps.one M
 · have:=h5.tail
   refine this.perm ?_;exact JW (l₁:=σ1') (l₂:=τ) (a:=mark w.heap.size)
 · exact(((r.grow u).grow H.gr).grow X:zD Y _ env a)
 · show _::a.defers=_
   rw[hd];rfl
theorem qrN:∀(ms:List Nat)(w:World)(fr:Frame)(cs:List Frame),Inv K p (ms.map mark++τ) w→fr.mode≠.run→fr.defers=ms.map (fun D=>{target:=.collected D,args:=#[]})→
 ∃w',Steps P (lone fr cs w) (lone {fr with defers:=[]} cs w')∧Inv K p τ w'∧zE p w p w'
 |[],w,fr,cs,hi,hm,hd=>⟨w,by rw[show({fr with defers:=[]}:Frame)=fr by rw[←(show fr.defers=[]from hd)]];exact .refl _ _,hi,zE.refl p w⟩
 |D::ms,w,fr,cs,hi,hm,hd=>by
  have a:w.heap[D]? =some (.deferred (some [])):=hi.ok (mark D) og;obtain⟨b,c⟩:=qqx (o:=mark D) (o':=.aux D (.deferred none)) (.deferred none) hi rfl rfl a rfl fun h _=>h;have hs:=step_collected (P:=P) (cs:=cs) (fr:=fr) (d:={target:=.collected D,args:=#[]}) hm hd rfl (run_takeDeferred a);obtain⟨w',e,g,j⟩:=qrN ms _ {fr with defers:=[]++ms.map (fun D=>{target:=.collected D,args:=#[]})} cs b.tail hm rfl;exact⟨w',(Steps.one hs).trans e,g,c.tr j⟩
theorem qxS{ms:List Nat}(ds:List D)(j:σ.Perm (ms.map mark++τ))(d:yF P env τ fn.results.toList ds)(hR:R (yU ds) τ):ze ⟨none,ms,[],.normal⟩ P f fn K R (.code .ret::k) env σ:=fun p a w hi hr hn hd b cs hb l g m=>by
 obtain⟨w',n,o,q⟩:=qrN (P:=P) ms w {b.atR a (.code .ret::k)with mode:=.returning} cs (hi.perm j) og hd;refine .of_steps ((Steps.one (stepR_ret g)).trans n) ?_;have h:zD p w' env {tmps:=a.tmps,defers:=[]}:=hr.grow q;obtain⟨e,r,t,u⟩:=qqq (R:=R) (a:={tmps:=a.tmps,defers:=[]}) o h rfl m d hR b hb l (.code .ret::k);refine⟨e,w',{b.atR {tmps:=a.tmps,defers:=[]} (.code .ret::k)with mode:=.returning},r,?_,hb,t⟩;cases e with
 |returned v=>exact Steps.refl _ _
 |panicked c=>exact Steps.refl _ _
 |outgrown=>exact absurd rfl u
end
section
variable{m:Md}{P:Program}{f:FuncId}{fn:Func}{K:Ctx}{R:D→St→Prop}{k:List Item}{env:Env}{σ:St}
theorem qof{P:Program}{fr:Frame}{w:World}{e:Ending}(h:fr.leaving P w e):zal .normal P fr w e:=by
 cases e with
 |returned v=>exact h
 |panicked c=>exact h
 |outgrown=>trivial
def zcv(m:Md)(P:Program)(fn:Func)(K:Ctx)(R:D→St→Prop)(env:Env)(d:D)(τ:St):Prop:=∀(p:Addr→Prop)(a:Act)(w:World)(v:Value),Inv K p τ w→zD p w env a→Rep p w d v→Leaves P fn a.tmps (Left K R) m.marks (.panicking [{v,recovered:=false}]) w
theorem qxB{id:Nat}{ops:Array Oper}{dr:Bool}{Q:Env→St→Prop}{X:Env→D→St→Prop}(n:m.rd=none)(j:m.kd= .normal)(h:∀(p:Addr→Prop)(a:Act)(w:World),Inv K p σ w→zD p w env a→fn.ntmps≤a.tmps.size→a.defers=m.marks→(Code.region id ops dr).wpIn (fw m.rd) 0 P (zbd P K fn.ntmps m X Q) a w)
 (hX:∀e d τ,X e d τ→zcv m P fn K R e d τ) (hq:∀c σ',Q c σ'→ze m P f fn K R k c σ'):ze m P f fn K R (.code (.region id ops dr)::k) env σ:=fun p a w hi hr hn hd b cs hb C l o=>by
 obtain⟨e,r,w',E,g⟩:=h p a w hi hr hn hd b k cs (l.trans (qmV _).symm) (ql0 _ _) (qqS _ _);rcases E with⟨rfl,c,σ',t,q,i1,i2,i3,i4⟩|⟨v,d,τ,t,c,rfl,F,G,u,x,z⟩
 · exact .of_steps (qj1 g) (hq c σ' q t r w' i1 i2 i3 i4 b cs hb C l o)
 · obtain⟨todo,hs⟩:=g
   obtain⟨e,A,B,H,I,J,L⟩:=leaves_steps (P:=P) (fn:=fn) m.marks (.panicking [{v,recovered:=false}]) w' {b.atR r todo with mode:=.panicking [{v,recovered:=false}]} cs rfl z rfl (by rw[←hb]at o;exact o) (C.trans j) (hX c d τ F t r w' v u x G);refine .of_steps (qj1 hs) ?_;rw[n,j];exact⟨e,A,B,H,I,J.trans hb,qof L⟩
theorem qf6(b:m.rd=none)(c:m.kd= .normal){id:Nat}{l:List Oper}(d:yw l.toArray fn.ntmps=true)(ord:List (Nat×Cls))(e:ord.map (·.1)=List.range l.length)
 (h:Run P l.toArray (zcv m P fn K R) (ze m P f fn K R k) ord env σ):ze m P f fn K R (.code (.region id l.toArray false)::k) env σ:=
 qxB b c (Q:=ze m P f fn K R k) (X:=zcv m P fn K R) (fun p a w hi hr hn hd=>by
  refine wpIn_region ?_;have:=qnm (K:=K) (m:=m) (X:=zcv m P fn K R) (fun _ _ _ _=>b) d ord env σ a w h ⟨p,hi,hr,hn,hd⟩;rw[e]at this;simpa using this) (fun _ _ _ h=>h) (fun _ _ h=>h)
theorem qzw(c:m.rd=none)(d:m.kd= .normal)(h:∀(p:Addr→Prop)(a:Act)(w:World),Inv K p σ w→zD p w env a→Leaves P fn a.tmps (Left K R) m.marks .returning w):ze m P f fn K R (.code .ret::k) env σ:=fun p a w hi hr hn hd b cs hb o g n=>by
 obtain⟨e,j,l,q,r,t,u⟩:=leaves_steps (P:=P) (fn:=fn) m.marks .returning w {b.atR a (.code .ret::k)with mode:=.returning} cs rfl hd rfl (by rw[←hb]at n;exact n) (o.trans d) (h p a w hi hr);refine .of_steps (.one (stepR_ret (g.trans c))) ?_;rw[c,d];exact⟨e,j,l,q,r,t.trans hb,qof u⟩
theorem qtY{id t s1 s2:Nat}{g:FuncId}{j l:Nat}{o q:Oper}(v:m.rd=none)(x:o.op= .makeFunc (.func g) #[] #[.tmp s1,.tmp s2])(z:o.dst=some t)(A:o.guard=none)(B:q.op= .defer {callee:=.value (.tmp t),args:=#[],argTypes:=#[]})(C:q.dst=none)(E:q.guard=none)
 (G:lk env s1=some (.ref j 0 [])) (H:lk env s2=some (.ref l 0 [])) (I:t<fn.ntmps)
 (h:ze {m with ds:={target:=.fn (.func g) #[.pointer (some ⟨j,0,none⟩),.pointer (some ⟨l,0,none⟩)],args:=#[]}::m.ds} P f fn K R k ((t,.clo (.func g) [] [.ref j 0 [],.ref l 0 []])::env) σ):
 ze m P f fn K R (.code (.region id #[o,q] false)::k) env σ:=fun p a w hi hr hn hd b cs hb J r L=>by
 have v1:=hr s1 _ G;have v2:=hr s2 _ H;simp only[Rep]at v1 v2;have hs:t<a.tmps.size:=vi I hn;have arr:(Code.region id #[o,q] false).wpIn (fw m.rd) 0 P (fun e F w'=>e= .normal∧w'=w∧F={tmps:=a.tmps.setIfInBounds t (.func (.func g) #[] #[.pointer (some ⟨j,0,none⟩),.pointer (some ⟨l,0,none⟩)]),defers:={target:=.fn (.func g) #[.pointer (some ⟨j,0,none⟩),.pointer (some ⟨l,0,none⟩)],args:=#[]}::a.defers}) a w:=by
  rw[v];refine wpIn_region ?_;simp only[jV,jg,ji,List.range_succ,List.range_zero,jq,jy];simp only[wpOpsIn,vD,JH,JD,Region.wanted,A,E,if_true];refine qgc ?_;unfold Oper.wp;have M:(execOp a.eval o).run P w= .ok (.value (.func (.func g) #[] #[.pointer (some ⟨j,0,none⟩),.pointer (some ⟨l,0,none⟩)])) w:=by
   unfold execOp;rw[x];simp[Instr.makeFunc,Act.eval,v1,v2]
  rw[M,Oper.upon_value,z];refine qgc ?_;unfold Oper.wp;have N:(execOp (a.put (some t) (.func (.func g) #[] #[.pointer (some ⟨j,0,none⟩),.pointer (some ⟨l,0,none⟩)])).eval q).run P w= .ok (.defer {target:=.fn (.func g) #[.pointer (some ⟨j,0,none⟩),.pointer (some ⟨l,0,none⟩)],args:=#[]}) w:=by
   unfold execOp;rw[B];simp[resolve,Deferred.ofValue,Act.eval,Act.put,hs]
  rw[N,Oper.upon_defer,C];exact⟨trivial,rfl,rfl⟩
 obtain⟨e,F,w',⟨rfl,rfl,rfl⟩,u⟩:=arr b k cs (r.trans (qmV _).symm) (ql0 _ _) (qqS _ _);refine .of_steps (qj1 u) (h p _ w' hi (fun s d c=>?_) (by simpa using hn) (by simp[Md.marks,hd]) b cs hb J r L);rw[qa5]at c;by_cases n:t=s
 · subst n
   rw[if_pos rfl]at c;injection c with c
   subst c;simp only[Rep,zB];exact⟨[],[.pointer (some ⟨j,0,none⟩),.pointer (some ⟨l,0,none⟩)],by simp[hs],rfl,_,_,rfl,rfl,_,_,rfl,rfl,rfl⟩
 · rw[if_neg n]at c
   have:=hr s d c;simpa[Jb n]using this
end
section
variable{P:Program}
theorem qoW(u u1:FrameMode){v:Value}(F:∀(c:Frame)(cs:List Frame),c.mode=u→recoverD (c::cs)=some (v,{c with mode:=u1}::cs)∨(recoverD (c::cs)=none∧v= .nilIface∧({c with mode:=u1}:Frame)=c)){g:FuncId}{fn:Func}{id:Nat}{z A:Oper}{S:Code}{B C tr o:Nat}{d:D}{K:Ctx}{R:D→St→Prop}{σ:St}{p:Addr→Prop}{w:World}
 (Z:P.funcs[g]? =some fn) (hb:fn.body=some (.seq (.region id #[z,A] false) S)) (h1:z.op= .call {callee:=.builtin .recover,args:=#[],argTypes:=#[]}) (G:z.dst=some tr) (H:z.guard=none) (h2:A.op= .assign (.tmp tr)) (I:A.dst=some o) (J:A.guard=none)
 (ht:tr<fn.ntmps) (W:o<fn.ntmps) (hne:2≤tr) (hne2:2≤o) (hi:Inv K p σ w) (hv:Rep p w d v)
 (h:∀K',ze ⟨none,[],[],.deferred⟩ P g fn K' R [.code S] [(o,d),(tr,d),(0,.ref B 0 []),(1,.ref C 0 [])] σ):
 CallsD P g #[.pointer (some ⟨B,0,none⟩),.pointer (some ⟨C,0,none⟩)] u w fun e u' w'=>u'=u1∧Left {K with X:=fun _ _=>False} R e w':=by
 intro c cs hu;let b:Frame:={(default:Frame)with fn:=g,kind:=.deferred,roundOf:=none}
 let a0:Act:={tmps:=#[.pointer (some ⟨B,0,none⟩),.pointer (some ⟨C,0,none⟩)]++Array.replicate (fn.ntmps-2) undef,defers:=[]}
 let L:Act:={tmps:=(a0.tmps.setIfInBounds tr v).setIfInBounds o v,defers:=[]}
 have E:a0.tmps.size=fn.ntmps:=by
  simp only[a0,Jc,Array.size_replicate];show 2+(fn.ntmps-2)=_;omega
 have n:Frame.enter P g #[.pointer (some ⟨B,0,none⟩),.pointer (some ⟨C,0,none⟩)] .deferred=b.at a0 [.code (.seq (.region id #[z,A] false) S)]:=by
  simp[Frame.enter,Frame.at,Z,hb,b,a0]
 have M:(Code.region id #[z,A] false).wpS P (fun e a' N w'=>e= .normal∧a'=L∧N={c with mode:=u1}::cs∧w'=w) a0 (c::cs) w:=by
  apply wpS_region;have r1:(execOp a0.eval z).run P w= .ok .recover w:=by
   unfold execOp;rw[h1];simp[resolve,invoke,go_sem]
  have r2:(execOp (a0.put (some tr) v).eval A).run P w= .ok (.value v) w:=by
   unfold execOp;rw[h2];simp[Act.eval,Act.put,E,ht]
  simp only[jV,jg,ji,List.range_succ,List.range_zero,jq,jy];rcases F c cs hu with hr|⟨hr,rfl,he⟩
  · simp only[wpOpsS,vD,JH,JD,Region.wanted,H,J,if_true,r1,hr,G,r2,I,Oper.upon_value]
    exact⟨trivial,rfl,trivial,trivial⟩
  · rw[he]
    simp only[wpOpsS,vD,JH,JD,Region.wanted,H,J,if_true,r1,hr,G,r2,I,Oper.upon_value];exact⟨trivial,rfl,trivial,trivial⟩
 obtain⟨e,a',N,w',⟨rfl,rfl,rfl,rfl⟩,O⟩:=M b [.code S] rfl rfl;have hrel:zD p w' [(o,d),(tr,d),(0,.ref B 0 []),(1,.ref C 0 [])] L:=by
  have r:∀(l:Array Value)(i:Nat)(x:Value)(j:Nat),(l.setIfInBounds i x).getD j undef=if i=j∧i<l.size then x else l.getD j undef:=fun l i x j=>by
   simp only[Array.getD_eq_getD_getElem?,J2];by_cases Q:i=j
   · subst Q
     by_cases hl:i<l.size
     · simp[hl]
     · simp[hl]
   · simp[Q]
  intro t d' a;simp only[qa5]at a;show Rep p w' d' (((a0.tmps.setIfInBounds tr v).setIfInBounds o v).getD t undef);rw[r,r,Array.size_setIfInBounds,E];by_cases U:o=t
  · rw[if_pos U]at a
    injection a with a
    subst a;rw[if_pos ⟨U,W⟩];exact hv
  · rw[if_neg U]at a
    rw[if_neg fun h=>U h.1];by_cases V:tr=t
    · rw[if_pos V]at a
      injection a with a
      subst a;rw[if_pos ⟨V,ht⟩];exact hv
    · rw[if_neg V]at a
      rw[if_neg fun h=>V h.1];have Y:t=0∨t=1:=by
       by_cases e3:0=t
       · exact .inl e3.symm
       · rw[if_neg e3]at a
         by_cases e4:1=t
         · exact .inr e4.symm
         · rw[if_neg e4]at a
           cases a
      rcases Y with rfl|rfl
      · rw[if_pos rfl]at a
        injection a with a
        subst a;simp only[Rep];show(#[Value.pointer (some ⟨B,0,none⟩),Value.pointer (some ⟨C,0,none⟩)]++Array.replicate (fn.ntmps-2) undef).getD _ undef=_;rw[Array.getD_eq_getD_getElem?,JB og];rfl
      · rw[if_neg od,if_pos rfl]at a
        injection a with a
        subst a;simp only[Rep];show(#[Value.pointer (some ⟨B,0,none⟩),Value.pointer (some ⟨C,0,none⟩)]++Array.replicate (fn.ntmps-2) undef).getD _ undef=_;rw[Array.getD_eq_getD_getElem?,JB og];rfl
 obtain⟨e,w2,fr,q1,q2,q3,q4⟩:=h {K with X:=fun _ _=>False} p L w' (hi.of (by rfl) (by rfl) (by rfl)) hrel (by simp[L,E]) (by simp[L,Md.marks]) b ({c with mode:=u1}::cs) rfl rfl rfl Z;rw[Frame.atR_of_none rfl]at q2;refine⟨e,_,w2,fr,⟨rfl,q1⟩,?_,?_⟩
 · rw[n]
   exact Comes.of_steps (.head step_seq O) q2
 · rcases q1 with⟨v',d',σ',q,rfl,_⟩|⟨_,_,_,_,_,hx,_⟩
   · obtain⟨q5,q6,q7,q8⟩:=q4
     exact⟨q7,q5,q6,q8⟩
   · exact hx.elim
variable{o:Oper}{ρ:Operand→Option D}{d:D}
theorem qpl{v:Value}{g:FuncId}{fn:Func}{id:Nat}{b c:Oper}{x:Code}{z A tr j:Nat}{d:D}{K:Ctx}{R:D→St→Prop}{σ:St}{p:Addr→Prop}{w:World}
 (B:P.funcs[g]? =some fn) (hb:fn.body=some (.seq (.region id #[b,c] false) x)) (C:b.op= .call {callee:=.builtin .recover,args:=#[],argTypes:=#[]}) (l:b.dst=some tr) (n:b.guard=none) (E:c.op= .assign (.tmp tr)) (q:c.dst=some j) (r:c.guard=none)
 (F:tr<fn.ntmps) (t:j<fn.ntmps) (u:2≤tr) (a:2≤j) (hi:Inv K p σ w) (G:Rep p w d v)
 (h:∀H,ze ⟨none,[],[],.deferred⟩ P g fn H R [.code x] [(j,d),(tr,d),(0,.ref z 0 []),(1,.ref A 0 [])] σ):
 CallsD P g #[.pointer (some ⟨z,0,none⟩),.pointer (some ⟨A,0,none⟩)] (.panicking [{v,recovered:=false}]) w fun e I w'=>I= .panicking [{v,recovered:=true}]∧Left {K with X:=fun _ _=>False} R e w':=
 qoW _ _ (fun J cs hu=>.inl (by simp[recoverD,hu])) B hb C l n E q r F t u a hi G h
theorem qoi{g:FuncId}{fn:Func}{id:Nat}{b c:Oper}{x:Code}{z A tr j:Nat}{K:Ctx}{R:D→St→Prop}{σ:St}{p:Addr→Prop}{w:World}
 (B:P.funcs[g]? =some fn) (hb:fn.body=some (.seq (.region id #[b,c] false) x)) (C:b.op= .call {callee:=.builtin .recover,args:=#[],argTypes:=#[]}) (l:b.dst=some tr) (n:b.guard=none) (E:c.op= .assign (.tmp tr)) (q:c.dst=some j) (r:c.guard=none)
 (F:tr<fn.ntmps) (t:j<fn.ntmps) (u:2≤tr) (a:2≤j) (hi:Inv K p σ w)
 (h:∀G,ze ⟨none,[],[],.deferred⟩ P g fn G R [.code x] [(j,.nili),(tr,.nili),(0,.ref z 0 []),(1,.ref A 0 [])] σ):
 CallsD P g #[.pointer (some ⟨z,0,none⟩),.pointer (some ⟨A,0,none⟩)] .returning w fun e H w'=>H= .returning∧Left {K with X:=fun _ _=>False} R e w':=
 qoW .returning .returning (v:=.nilIface) (fun I cs hu=>.inr ⟨by simp[recoverD,hu],rfl,by cases I;simp_all⟩) B hb C l n E q r F t u a hi (by simp only[Rep]) h
theorem qsg{x:Operand}{ty e:TypeId}(b:o.op= .binOp .neq ty x (.const .nilIface) e)(g:ρ x=some .nili)(hr:∀(w:World),(Op.equal ty .nilIface .nilIface).run P w= .ok true w):zi P o ρ (.bool false):=qM fun p a w h=>by
 have c:=h x (by rw[b];simp[Op.operands]) _ g;simp only[Rep]at c;refine⟨.bool false,?_,by simp only[Rep]⟩;unfold execOp;rw[b];have j:eqGuard .neq ty x (.const .nilIface) .nilIface .nilIface=pure ():=by
  unfold eqGuard;simp
 have l:binOp .neq ty .nilIface .nilIface=(do pure (.bool (!(←Op.equal ty .nilIface .nilIface)))):=rfl;have n:a.eval (.const .nilIface)= .nilIface:=rfl;simp[c,n,j,l,hr]
theorem qq3{x y:Operand}{t ty:TypeId}{g:TypeId}(c:o.op= .binOp .neq ty x y g)(j:ρ x=some (.ifc t d))(hy:ρ y=some .nili)(hr:∀(v:Value)(w:World),(Op.equal ty (.iface t v) .nilIface).run P w= .ok false w):zi P o ρ (.bool true):=qM fun p a w h=>by
 have b:=h x (by rw[c];simp[Op.operands]) _ j;have e:=h y (by rw[c];simp[Op.operands]) _ hy;simp only[Rep]at b e;obtain⟨v,b,_⟩:=b;refine⟨.bool true,?_,by simp only[Rep]⟩;unfold execOp;rw[c];have l:eqGuard .neq ty x y (.iface t v) .nilIface=pure ():=rfl;have n:binOp .neq ty (.iface t v) .nilIface=(do pure (.bool (!(←Op.equal ty (.iface t v) .nilIface)))):=rfl;simp[b,e,l,n,hr]
theorem qrk{x:Operand}{tx t:TypeId}(c:o.op= .typeAssert x tx t true)(hr:∀(v:Value)(w:World),(Instr.typeAssert (.iface t v) tx t true).run P w= .ok (.tuple #[v,.bool true]) w)(e:ρ x=some (.ifc t d)):zi P o ρ (.tup [d,.bool true]):=qM fun p a w h=>by
 have b:=h x (by rw[c];simp[Op.operands]) _ e;simp only[Rep]at b;obtain⟨v,b,g⟩:=b;refine⟨.tuple #[v,.bool true],?_,?_⟩;unfold execOp;rw[c];simp[b,hr];simp only[Rep,zB];exact⟨[v,.bool true],rfl,_,_,rfl,g,_,_,rfl,rfl,rfl⟩
end
section
variable{m:Md}{P:Program}{f:FuncId}{fn:Func}{K:Ctx}{R:D→St→Prop}{k:List Item}{env:Env}{σ:St}
theorem qtK(_:P.funcs[f]? =some fn)(ds:List D)(h:yF P env σ fn.results.toList ds)(hR:R (yU ds) σ):ze ⟨none,[],[],.deferred⟩ P f fn K R [] env σ:=fun p a w hi hr hn hd b cs hb j g l=>by
 obtain⟨e,n,q,r⟩:=qqq (R:=R) hi hr hd l h hR b hb j [];refine⟨e,w,{b.atR a []with mode:=.returning},n,?_,hb,q⟩;cases e with
 |returned v=>exact Steps.one (stepR_end g)
 |panicked c=>exact Steps.one (stepR_end g)
 |outgrown=>exact absurd rfl r
theorem qv5{g:FuncId}{h j s1 s2:Nat}{d:D}{σ':St}{ds:List D}(hm:m.marks=[{target:=.fn (.func g) #[.pointer (some ⟨h,0,none⟩),.pointer (some ⟨j,0,none⟩)],args:=#[]}])(x:callee P g)
 (l:∀(p:Addr→Prop)(w:World)(v:Value),Inv K p σ w→Rep p w d v→CallsD P g #[.pointer (some ⟨h,0,none⟩),.pointer (some ⟨j,0,none⟩)] (.panicking [{v,recovered:=false}]) w fun e u w'=>u= .panicking [{v,recovered:=true}]∧Left {K with X:=fun _ _=>False} (fun d σ''=>d= .tup []∧σ''=σ') e w')
 (n:yF P [(s1,.ref h 0 []),(s2,.ref j 0 [])] σ' fn.results.toList ds) (hR:R (yU ds) σ') (z:lk env s1=some (.ref h 0 [])) (A:lk env s2=some (.ref j 0 [])):zcv m P fn K R env d σ:=fun p a w v hi hr B=>by
 rw[hm];refine leaves_cons (f:=g) (args:=#[.pointer (some ⟨h,0,none⟩),.pointer (some ⟨j,0,none⟩)]) og ?_ ?_
 · simp only[invoke]
   rw[qdn x];congr 2
 · refine(l p w v hi B).mono ?_
   rintro e u w' ⟨rfl,hl⟩;rcases hl with⟨H,d',σ'',q,rfl,⟨rfl,rfl⟩,C,r⟩|⟨_,_,_,_,rfl,E,_⟩
   · have hrel:zD q w' [(s1,.ref h 0 []),(s2,.ref j 0 [])] a:=fun t d b=>by
      rw[qa5]at b;split at b
      · rename_i e
        subst e;injection b with b
        subst b;have:=hr _ _ z;simp only[Rep]at this⊢;exact this
      · rw[qa5]at b
        split at b
        · rename_i e
          subst e;injection b with b
          subst b;have:=hr _ _ A;simp only[Rep]at this⊢;exact this
        · cases b
     have c:Inv K q σ'' w':=r.of (by rfl) (by rfl) (by rfl);obtain⟨v2,F,G⟩:=qiH c hrel n;exact⟨v2,F,.inl ⟨v2,_,_,q,rfl,hR,G,c⟩⟩
   · exact E.elim
theorem qpq{g:FuncId}{j l s1 s2:Nat}{ds:List D}(hm:m.marks=[{target:=.fn (.func g) #[.pointer (some ⟨j,0,none⟩),.pointer (some ⟨l,0,none⟩)],args:=#[]}])(v:callee P g)
 (h:∀(p:Addr→Prop)(w:World),Inv K p σ w→CallsD P g #[.pointer (some ⟨j,0,none⟩),.pointer (some ⟨l,0,none⟩)] .returning w fun e u w'=>u= .returning∧Left {K with X:=fun _ _=>False} (fun d σ'=>d= .tup []∧σ'=σ) e w')
 (x:lk env s1=some (.ref j 0 [])) (z:lk env s2=some (.ref l 0 []))
 (n:yF P [(s1,.ref j 0 []),(s2,.ref l 0 [])] σ fn.results.toList ds) (hR:R (yU ds) σ) (p:Addr→Prop) (a:Act) (w:World) (hi:Inv K p σ w) (hr:zD p w env a):Leaves P fn a.tmps (Left K R) m.marks .returning w:=by
 rw[hm];refine leaves_cons (f:=g) (args:=#[.pointer (some ⟨j,0,none⟩),.pointer (some ⟨l,0,none⟩)]) og ?_ ?_
 · simp only[invoke]
   rw[qdn v];congr 2
 · refine(h p w hi).mono ?_
   rintro e u w' ⟨rfl,hl⟩;rcases hl with⟨F,d',σ'',q,rfl,⟨rfl,rfl⟩,A,r⟩|⟨_,_,_,_,rfl,B,_⟩
   · have hrel:zD q w' [(s1,.ref j 0 []),(s2,.ref l 0 [])] a:=fun t d b=>by
      rw[qa5]at b;split at b
      · rename_i e
        subst e;injection b with b
        subst b;have:=hr _ _ x;simp only[Rep]at this⊢;exact this
      · rw[qa5]at b
        split at b
        · rename_i e
          subst e;injection b with b
          subst b;have:=hr _ _ z;simp only[Rep]at this⊢;exact this
        · cases b
     have c:Inv K q _ w':=r.of (by rfl) (by rfl) (by rfl);obtain⟨v2,C,E⟩:=qiH c hrel n;exact⟨v2,C,.inl ⟨v2,_,_,q,rfl,hR,E,c⟩⟩
   · exact B.elim
end
section
variable{α β:Type}[DecidableEq α]
def zbj:List (α×D)→α→List (α×D) |[],_=>[] |q::l,x=>if q.1=x then l else q::zbj l x
def zbQ:List (α×β)→α→List (α×β) |[],_=>[] |q::l,x=>if q.1=x then l else q::zbQ l x
theorem qtR(g:β→D):∀(l:List (α×β))(x:α),zbj (l.map fun q=>(q.1,g q.2)) x=(zbQ l x).map fun q=>(q.1,g q.2)
 |[],_=>rfl
 |q::l,x=>by
  simp only[jm,zbj,zbQ];split
  rfl;rw[jm,qtR g l x]
theorem qt8:∀(l:List (α×D))(x:α),(zbj l x).length≤l.length
 |[],_=>jf _
 |q::l,x=>by
  unfold zbj;split
  simp;have:=qt8 l x;simp only[jg];omega
theorem qtX{P:Program}{kt:TypeId}{key:α→D}{vk:α→Value}{d:Value→Prop}(hK:yO P kt key vk d)(p:Addr→Prop)(w:World)(x:α):∀(l:List (α×D))(es:List MapEntry)(i:Nat),zU p w (yS key l) es→
 (zA (vk x) es i=none∧zbj l x=l)∨∃j v,zA (vk x) es i=some (i+j,v)∧∀(q:Addr→Prop)(u:World),zE p w q u→zU q u (yS key (zbj l x)) (es.eraseIdx j)
 |[],es,i,h=>by
  simp only[yS,jU,zU]at h;subst h;exact .inl ⟨rfl,rfl⟩
 |r::l,es,i,h=>by
  simp only[yS,jm,zU]at h;obtain⟨e,rest,rfl,t,B,z⟩:=h;have A:=hK.rep _ _ _ _ t;by_cases a:r.1=x;refine .inr ⟨0,e.val,?_,fun q u g=>?_⟩;unfold zA;rw[if_pos (by rw[A,a])];rfl;unfold zbj;rw[if_pos a];exact zU.grow g z;have b:e.key≠vk x:=fun C=>a (hK.inj _ _ (A.symm.trans C));rcases qtX hK p w x l rest (i+1) z with⟨c,n⟩|⟨j,v,c,n⟩
  refine .inl ⟨?_,?_⟩;unfold zA;rw[if_neg b];exact c;unfold zbj;rw[if_neg a,n];refine .inr ⟨j+1,v,?_,fun q u g=>?_⟩;unfold zA;rw[if_neg b,c];congr 2
  omega;unfold zbj;rw[if_neg a];exact⟨e,_,rfl,t.grow g,B.grow g,n q u g⟩
theorem qAQ{P:Program}{K:Ctx}{t kt e ty:TypeId}{key:α→D}{vk:α→Value}{d:Value→Prop}{r:Nat}{l:List (α×D)}{a0:α}{τ:St}{p:Addr→Prop}{w:World}(I:P.underlying t=some (.map kt e))(hK:yO P kt key vk d)(c:d (vk a0))(hi:Inv K p (.map r (yS key l)::τ) w):
 ∃w',(Builtin.delete_ #[t,kt] ty #[.map (some r),vk a0]).run P w= .ok (.tuple #[]) w'∧Inv K p (.map r (yS key (zbj l a0))::τ) w'∧zE p w p w':=by
 obtain⟨es,clock,A,B,M,J,gl⟩:=hi.ok _ (je ..);have L:=hK.check w es.isEmpty (vk a0) c;have fin:∀(a:Array MapEntry),(a.toList.map (·.born)).Nodup→(∀e∈a.toList,e.born<clock)→(∀(q:Addr→Prop)(u:World),zE p w q u→zU q u (yS key (zbj l a0)) a.toList)→
  Inv K p (.map r (yS key (zbj l a0))::τ) {w with heap:=w.heap.setIfInBounds r (.map a clock)}∧zE p w p {w with heap:=w.heap.setIfInBounds r (.map a clock)}:=fun a E F hr=>by
  have h:=MapKept.heap_set (o':=.map a clock) A;have n:∀x,p x→({w with heap:=w.heap.setIfInBounds r (.map a clock)}:World).cell? x=w.cell? x:=fun x z=>qdy (h.2 _ (by
   intro e;obtain⟨u,hu⟩:=hi.pub x z;unfold World.cell? at hu;rw[e,A]at hu;cases hu))
  have gr:zE p w p {w with heap:=w.heap.setIfInBounds r (.map a clock)}:=fun x z=>⟨z,n x z⟩
  refine⟨hi.write (b:=r) rfl rfl gr (fun x z=>.inl z) ⟨a,clock,h.1,hr _ _ gr,?_,E,F⟩ (fun x z=>?_) rfl rfl rfl og fun k N=>h.2 k N,gr⟩
  · have:=qt8 l a0
    simp only[yS,jh]at M⊢;omega
  · obtain⟨u,hu⟩:=hi.pub x z
    exact⟨u,by rw[n x z];exact hu⟩
 rcases qtX hK p w a0 l es.toList 0 B with⟨G,H⟩|⟨j,v,G,H⟩
 · have C:=(hK.find w (vk a0) es.toList c (qeU hK B)).trans (by rw[G])
   obtain⟨f1,f2⟩:=fin es J gl fun q u g=>by rw[H];exact zU.grow g B
   refine⟨_,?_,f1,f2⟩;simp[Builtin.delete_,run_underlying I,MapKept.run_getObj_map A,L,C,MapKept.run_setObj_map _ A]
 · have C:=(hK.find w (vk a0) es.toList c (qeU hK B)).trans (by rw[G])
   rw[jc]at C;have hm:(es.eraseIdxIfInBounds j).toList=es.toList.eraseIdx j:=by simp
   obtain⟨f1,f2⟩:=fin (es.eraseIdxIfInBounds j) (by rw[hm];exact J.sublist ((List.eraseIdx_sublist ..).map _)) (fun e he=>gl e (by rw[hm]at he;exact(List.eraseIdx_sublist ..).subset he)) fun q u g=>by rw[hm];exact H q u g
   refine⟨_,?_,f1,f2⟩;simp[Builtin.delete_,run_underlying I,MapKept.run_getObj_map A,L,C,MapKept.run_setObj_map _ A]
end
section
variable{P:Program}
theorem qsH{fr:Frame}{cs:List Frame}{w w':World}{d:Deferred}{ds:List Deferred}{b:Builtin}{at_:Array TypeId}{ty:TypeId}{e:Array Bool}{v:Value}(hm:fr.mode= .returning)(hd:fr.defers=d::ds)(c:d.target= .builtin b at_ ty e)
 (hi:(invoke d.target d.args).run P w= .ok (.value v) w'):
 step P (lone fr cs w)= .next (lone {fr with defers:=ds} cs w'):=by
 obtain⟨t,a⟩:=d;simp only at c hi;subst c;refine step_lone_go ?_;simp[stepG,unwind,callDeferred,hm,hd,hi]
end
section
variable{m:Md}{P:Program}{f:FuncId}{fn:Func}{K:Ctx}{R:D→St→Prop}{k:List Item}{env:Env}{σ:St}
def zbL(r:Nat)(a:IntKind)(n:Int)(tm b ty:TypeId):Deferred:={target:=.builtin .delete #[tm,b] ty #[false,false],args:=#[.map (some r),.int a n]}
theorem qyx{id t1 t2 s1 s2 r:Nat}{g:IntKind}{n:Int}{tm z:TypeId}{t u l:Oper}(A:m.rd=none)(B:t.op= .move (.tmp s1))(C:t.dst=some t1)(E:t.guard=none)(F:u.op= .move (.tmp s2))(G:u.dst=some t2)(H:u.guard=none)(I:l.op= .defer {callee:=.builtin .delete,args:=#[.tmp t1,.tmp t2],argTypes:=#[tm,z]})(J:l.dst=none)(L:l.guard=none)
 (X:lk env s1=some (.map r)) (Y:lk env s2=some (.int g n)) (M:t1<fn.ntmps) (N:t2<fn.ntmps) (O:t1≠t2) (hs:t1≠s2)
 (h:ze {m with ds:=zbL r g n tm z l.type::m.ds} P f fn K R k ((t2,.int g n)::(t1,.map r)::env) σ):
 ze m P f fn K R (.code (.region id #[t,u,l] false)::k) env σ:=fun p a w hi hr hn hd b cs hb Z v hf=>by
 have v1:=hr s1 _ X;have v2:=hr s2 _ Y;have w1:=v1;have w2:=v2;simp only[Rep]at v1 v2;have x1:a.tmps[s1]?.getD undef= .map (some r):=by rw[←Array.getD_eq_getD_getElem?];exact v1
 have x2:a.tmps[s2]?.getD undef= .int g n:=by rw[←Array.getD_eq_getD_getElem?];exact v2.1
 have Q:t1<a.tmps.size:=vi M hn;have S:t2<a.tmps.size:=vi N hn;have U:((a.tmps.setIfInBounds t1 (.map (some r))).setIfInBounds t2 (.int g n)).getD t1 undef= .map (some r):=by
  rw[Array.getD_eq_getD_getElem?,Jb O.symm,J2,if_pos rfl,if_pos Q];rfl
 have V:((a.tmps.setIfInBounds t1 (.map (some r))).setIfInBounds t2 (.int g n)).getD t2 undef= .int g n:=by
  rw[Array.getD_eq_getD_getElem?,J2,if_pos rfl,if_pos (by simpa using S)];rfl
 have arr:(Code.region id #[t,u,l] false).wpIn (fw m.rd) 0 P (fun e W w'=>e= .normal∧w'=w∧W={tmps:=(a.tmps.setIfInBounds t1 (.map (some r))).setIfInBounds t2 (.int g n),defers:=zbL r g n tm z l.type::a.defers}) a w:=by
  rw[A];refine wpIn_region ?_;simp only[jV,jg,ji,List.range_succ,List.range_zero,jq,jy];simp only[wpOpsIn,vD,JH,JD,Region.wanted,E,H,L,if_true];refine qgc ?_;unfold Oper.wp;have r1:(execOp a.eval t).run P w= .ok (.value (.map (some r))) w:=by
   unfold execOp;rw[B];simp[Act.eval,Array.getD_eq_getD_getElem?,x1]
  rw[r1,Oper.upon_value,C];refine qgc ?_;unfold Oper.wp;have r2:(execOp (a.put (some t1) (.map (some r))).eval u).run P w= .ok (.value (.int g n)) w:=by
   unfold execOp;rw[F];simp[Act.eval,Act.put,Array.getD_eq_getD_getElem?,Jb hs,x2]
  rw[r2,Oper.upon_value,G];refine qgc ?_;unfold Oper.wp;have r3:(execOp ((a.put (some t1) (.map (some r))).put (some t2) (.int g n)).eval l).run P w= .ok (.defer (zbL r g n tm z l.type)) w:=by
   unfold execOp;rw[I];have z1:((a.put (some t1) (.map (some r))).put (some t2) (.int g n)).eval (.tmp t1)= .map (some r):=U;have z2:((a.put (some t1) (.map (some r))).put (some t2) (.int g n)).eval (.tmp t2)= .int g n:=V;simp[resolve,zbL,z1,z2]
  rw[r3,Oper.upon_defer,J];exact⟨trivial,rfl,rfl⟩
 obtain⟨e,W,w',⟨rfl,rfl,rfl⟩,x⟩:=arr b k cs (v.trans (qmV _).symm) (ql0 _ _) (qqS _ _);refine .of_steps (qj1 x) (h p _ w' hi (fun s d c=>?_) (by simpa using hn) (by simp[Md.marks,hd]) b cs hb Z v hf);rw[qa5]at c;by_cases q:t2=s
 · subst q
   rw[if_pos rfl]at c;injection c with c
   subst c;show Rep p w' _ (((a.tmps.setIfInBounds t1 (.map (some r))).setIfInBounds t2 (.int g n)).getD t2 undef);rw[V,←v2.1];exact w2
 · rw[if_neg q,qa5]at c
   by_cases j:t1=s
   · subst j
     rw[if_pos rfl]at c;injection c with c
     subst c;show Rep p w' _ (((a.tmps.setIfInBounds t1 (.map (some r))).setIfInBounds t2 (.int g n)).getD t1 undef);rw[U,←v1];exact w1
   · rw[if_neg j]at c
     have:=hr s d c;simpa[Jb q,Jb j]using this
theorem qCb{ds:List D}{r:Nat}{c:IntKind}{n:Int}{tm g ty e:TypeId}{l:List (Int×D)}{τ:St}(A:P.funcs[f]? =some fn)(hu:P.underlying tm=some (.map g e))(q:P.underlying g=some (.int c))(B:σ.Perm (.map r (yS (D.int c) l)::τ))(t:yF P env (.map r (yS (D.int c) (zbj l n))::τ) fn.results.toList ds)(hR:R (yU ds) (.map r (yS (D.int c) (zbj l n))::τ)):
 ze ⟨none,[],[zbL r c n tm g ty],.normal⟩ P f fn K R (.code .ret::k) env σ:=fun p a w hi hr hn hd b cs hb C u z=>by
 obtain⟨w',h,j,gr⟩:=qAQ (ty:=ty) hu (zaA q) (a0:=n) (by rfl) (hi.perm B);obtain⟨v,E,F⟩:=qiH (fn:=fn) j (hr.grow gr) t;have x:({b.atR a (.code .ret::k)with mode:=.returning}:Frame).defers=[zbL r c n tm g ty]:=hd;refine⟨.returned v,w',{b.atR a (.code .ret::k)with mode:=.returning,defers:=[]},.inl ⟨v,_,_,p,rfl,hR,F,j⟩,?_,hb,⟨rfl,rfl,C,fn,by rw[←hb]at z;exact z,E⟩⟩;have s2:=qsH (P:=P) (fr:={b.atR a (.code .ret::k)with mode:=.returning}) (cs:=cs) (w:=w) (w':=w') (v:=.tuple #[]) rfl x rfl ?_
 · exact Steps.trans (Steps.one (stepR_ret u)) (Steps.one s2)
 show(invoke (zbL r c n tm g ty).target (zbL r c n tm g ty).args).run P w=_;simp[invoke,builtin,zbL,h]
class DlI(P:Program)(tm tk:TypeId)(k0:outParam IntKind):Prop where
 h:∃e,P.underlying tm=some (.map tk e)∧P.underlying tk=some (.int k0)
theorem uDf{T:Tb}{i:Nat}{a b:Oper}{d:Option Tmp}{c:Call}{ty:TypeId}{ps:String}{e:Array Edge}{g:Option (Nat×Bool)}:Gu (zh T m P f fn K R (.code (.region i #[a,b,{dst:=d,op:=.defer c,type:=ty,pos:=ps,after:=e,guard:=g}] false)::k) env σ):=id
theorem qy7{T:Tb}{id t1 t2 s1 s2 r:Nat}{q:IntKind}{n:Int}{tm t:TypeId}{j l e:Oper}(a:(j.op,j.dst,j.guard)=(.move (.tmp s1),some t1,none))(b:(l.op,l.dst,l.guard)=(.move (.tmp s2),some t2,none))(c:(e.op,e.dst,e.guard)=(.defer {callee:=.builtin .delete,args:=#[.tmp t1,.tmp t2],argTypes:=#[tm,t]},none,none))
 (hs:(lk env s1,lk env s2)=(some (.map r),some (.int q n))) (g:(decide (t1<fn.ntmps)&&decide (t2<fn.ntmps)&&decide (t1≠t2)&&decide (t1≠s2))=true)
 (h:zh T ⟨none,[],[zbL r q n tm t e.type],.normal⟩ P f fn K R k ((t2,.int q n)::(t1,.map r)::env) σ):
 zh T Md.top P f fn K R (.code (.region id #[j,l,e] false)::k) env σ:=by
 simp only[Prod.mk.injEq]at a b c hs;simp only[jk,decide_eq_true_eq]at g;exact⟨qyx rfl a.1 a.2.1 a.2.2 b.1 b.2.1 b.2.2 c.1 c.2.1 c.2.2 hs.1 hs.2 g.1.1.1 g.1.1.2 g.1.2 g.2 h.h⟩
theorem qDG{T:Tb}{id:Nat}{l:List Oper}{fz:List Nat}(hz:(yV T.fz id).getD []=fz)(hm:m.rd=none∧m.kd= .normal)(h:Rn fz T P (ze m P f fn K R k) (zcv m P fn K R) l (ixw 0 l) env σ)(hok:yw l.toArray fn.ntmps=true:=by kernel_rfl):zh T m P f fn K R (.code (.region id l.toArray false)::k) env σ:=⟨qf6 hm.1 hm.2 hok (ixw 0 l) (by rw[qp4,List.range_eq_range']) h.h⟩
end
theorem memA{o:Ob}{σ:St}(h:o∈σ:=by first|exact .head _|exact .tail _ (.head _)|exact .tail _ (.tail _ (.head _))|exact .tail _ (.tail _ (.tail _ (.head _)))|exact .tail _ (.tail _ (.tail _ (.tail _ (.head _))))|exact .tail _ (.tail _ (.tail _ (.tail _ (.tail _ (.head _)))))|exact .tail _ (.tail _ (.tail _ (.tail _ (.tail _ (.tail _ (.head _))))))|exact .tail _ (.tail _ (.tail _ (.tail _ (.tail _ (.tail _ (.tail _ (.head _)))))))|exact .tail _ (.tail _ (.tail _ (.tail _ (.tail _ (.tail _ (.tail _ (.tail _ (.head _))))))))|exact .tail _ (.tail _ (.tail _ (.tail _ (.tail _ (.tail _ (.tail _ (.tail _ (.tail _ (.head _)))))))))|exact .tail _ (.tail _ (.tail _ (.tail _ (.tail _ (.tail _ (.tail _ (.tail _ (.tail _ (.tail _ (.head _))))))))))|exact .tail _ (.tail _ (.tail _ (.tail _ (.tail _ (.tail _ (.tail _ (.tail _ (.tail _ (.tail _ (.tail _ (.head _)))))))))))):o∈σ:=h
def gdS(l:List Oper):List (Nat×Cls)→Option Nat
 |(i,_)::_=>match l[i]? with
  |some o=>match o.guard with
   |some (j,_)=>match l[j]? with
    |some o'=>o'.dst
    |none=>none
   |none=>none
  |none=>none
 |[]=>none
section
variable{T:Tb}{fz:List Nat}{Q:Env→St→Prop}
variable{P:Program}{X:Env→D→St→Prop}{l:List Oper}{env:Env}{σ:St}{rest:List (Nat×Cls)}
theorem z_bg{m:Md}{f:FuncId}{fn:Func}{K:Ctx}{R:D→St→Prop}{k:List Item}{ρ:Type}{b:Bool}{x y:Option ρ}{res:ρ}{s:Nat}(hr:(bif b then x else y)=some res)(e:gdS l rest=some s)(hs:lk env s=some (.bool b))(a:b=true→x=some res→Rn fz T P (ze m P f fn K R k) X l rest ((s,.bool true)::env) σ)(c:b=false→y=some res→Rn fz T P (ze m P f fn K R k) X l rest ((s,.bool false)::env) σ):Rn fz T P (ze m P f fn K R k) X l rest env σ:=z_br s hr hs a c
theorem z_kg{m:Md}{f:FuncId}{fn:Func}{K:Ctx}{R:D→St→Prop}{k:List Item}{b v:Bool}{s:Nat}(a:gdS l rest=some s)(hs:lk env s=some (.bool b))(hb:b=v)(h:Rn fz T P (ze m P f fn K R k) X l rest ((s,.bool v)::env) σ):Rn fz T P (ze m P f fn K R k) X l rest env σ:=⟨qAh s v hs hb h.h⟩
theorem z_rT{s:Nat}{a:List (Nat×Cls)}{b:Env}{C:Prop}{c:List (Nat×Bool×Nat)}{e:List (Nat×List Nat)}{tm:Nat}[n:Tabs P c e tm](q:gdS l rest=some s)(hs:lk env s=some (.bool true))(h:zq c e tm l T.ow [s] rest env= .mk a b C)(g:C)(j:Rn fz T P Q X l a b σ):Rn fz T P Q X l rest env σ:=qwl hs h g j
theorem z_rF{s:Nat}{a:List (Nat×Cls)}{b:Env}{C:Prop}{c:List (Nat×Bool×Nat)}{e:List (Nat×List Nat)}{tm:Nat}[n:Tabs P c e tm](q:gdS l rest=some s)(hs:lk env s=some (.bool false))(h:zq c e tm l T.ow [s] rest env= .mk a b C)(g:C)(j:Rn fz T P Q X l a b σ):Rn fz T P Q X l rest env σ:=qwl hs h g j
theorem z_rU{s:Nat}{a:List (Nat×Cls)}{b:Env}{C:Prop}{c:List (Nat×Bool×Nat)}{e:List (Nat×List Nat)}{tm:Nat}[n:Tabs P c e tm](q:gdS l rest=some s)(hs:lk env s=some .undef)(h:zq c e tm l T.ow [s] rest env= .mk a b C)(g:C)(j:Rn fz T P Q X l a b σ):Rn fz T P Q X l rest env σ:=qwl hs h g j
end
section
variable{T:Tb}{f:FuncId}{fn:Func}{K:Ctx}{R:D→St→Prop}{k:List Item}{P:Program}{env:Env}{σ:St}
theorem qdg{ds:List D}{c:Code}(T:Tb)(a:P.funcs[f]? =some fn)(hb:fn.body=some c)(h:∀K,(K.F0=fun b=>b∈yl σ)→P.funcs[f]? =some fn→zh T Md.top P f fn K R [.code c] (yA 0 ds) σ):Spec P f ds σ R:=qsO a hb fun K hK=>(h K hK a).h
theorem qpP{ds:List D}(b:P.funcs[f]? =some fn)(hR:R (yU ds) σ)(a:yF P env σ fn.results.toList ds):zh T Md.top P f fn K R (.code .ret::k) env σ:=⟨qbN b ds a hR⟩
theorem qDL{ds:List D}(b:P.funcs[f]? =some fn)(hR:R (yU ds) σ)(a:yF P env σ fn.results.toList ds):zh T Md.top P f fn K R [] env σ:=⟨qxt b ds a hR⟩
theorem resC{t b n:Nat}{a:TypeId}{e d:D}{c:List (Nat×Bool×Nat)}{g:List (Nat×List Nat)}{tm:Nat}[j:Tabs P c g tm](h:lk env t=some (.ref b 0 []))(hm: .cell b e∈σ)(q:yV c a=some (e.isAgg,n))(hn:sz e=n)(hw:Wk e d):ResD P env σ (.cell t a) d:=zam h hm (j.ty q) hn hw
theorem zaX{rs:List ResultVar}{ds:List D}(h:yF P env σ rs ds:=by(repeat(first|exact .nil|refine .cons (zd rfl wkA) ?_|refine .cons (resC rfl memA rfl szA wkA) ?_));done):yF P env σ rs ds:=h
end
def RL(R:D→St→Prop):D→St→Prop:=fun d s=>∃S U,R d S∧s.Perm (S++U)
theorem qxz{P:Program}{f:FuncId}{ds:List D}{σ:St}{R:D→St→Prop}(h:Spec P f ds σ (RL R)):Spec P f ds σ R:=fun w p b hi c=>Calls.mono (h w p b hi c) fun e w' a=>by
 rcases a with⟨v,d,σ',g,j,⟨S,U,n,q⟩,r,t⟩|a
 exact .inl ⟨v,d,S,g,j,n,r,(t.perm q).less⟩;exact .inr a
section
variable{T:Tb}{f:FuncId}{fn:Func}{K:Ctx}{R:D→St→Prop}{k:List Item}{P:Program}{env:Env}{σ:St}
theorem qdR{ds:List D}{c:Code}(T:Tb)(a:P.funcs[f]? =some fn)(hb:fn.body=some c)(h:∀K,(K.F0=fun b=>b∈yl σ)→P.funcs[f]? =some fn→zh T Md.top P f fn K (RL R) [.code c] (yA 0 ds) σ):Spec P f ds σ R:=qxz (qsO a hb fun K hK=>(h K hK a).h)
theorem qsw{ds:List D}{S U:St}(b:P.funcs[f]? =some fn)(hR:R (yU ds) S)(c:σ.Perm (S++U))(a:yF P env σ fn.results.toList ds):zh T Md.top P f fn K (RL R) (.code .ret::k) env σ:=⟨qbN b ds a ⟨S,U,hR,c⟩⟩
theorem qBf{ds:List D}{S U:St}(b:P.funcs[f]? =some fn)(hR:R (yU ds) S)(c:σ.Perm (S++U))(a:yF P env σ fn.results.toList ds):zh T Md.top P f fn K (RL R) [] env σ:=⟨qxt b ds a ⟨S,U,hR,c⟩⟩
theorem qCo{β:Type}{ds:List D}{S U τ:St}{r:Nat}{a:IntKind}{n:Int}{tm c ty:TypeId}{g:β→D}{l:List (Int×β)}[q:DlI P tm c a](t:P.funcs[f]? =some fn)(j:σ.Perm ([.map r (zb (D.int a) g l)]++τ))(hR:R (yU ds) S)(hq:(.map r (zb (D.int a) g (zbQ l n))::τ).Perm (S++U))(b:yF P env (.map r (zb (D.int a) g (zbQ l n))::τ) fn.results.toList ds):zh T ⟨none,[],[zbL r a n tm c ty],.normal⟩ P f fn K (RL R) (.code .ret::k) env σ:=by
 obtain⟨e,u,v⟩:=q.h;rw[qhG]at j;rw[qhG,←qtR]at hq b;exact⟨qCb t u v j b ⟨S,U,hR,hq⟩⟩
end
section
variable{P:Program}{f:FuncId}{fn:Func}{ds:List D}{σ:St}{R:D→St→Prop}{XP:D→Prop}
theorem qyQ{c:Code}(T:Tb)(a:P.funcs[f]? =some fn)(hb:fn.body=some c)(h:∀K,(K.F0=fun b=>b∈yl σ)→(∀d,XP d→K.X d [])→P.funcs[f]? =some fn→zh T Md.top P f fn K R [.code c] (yA 0 ds) σ):yX P f ds σ R XP:=qtJ a hb fun K hK hX=>(h K hK hX a).h
theorem quT(h:yX P f ds σ (RL R) XP):yX P f ds σ R XP:=fun w p b hi c=>Calls.mono (h w p b hi c) fun e w' a=>by
 rcases a with⟨v,d,σ',g,j,⟨S,U,n,q⟩,r,t⟩|a
 exact .inl ⟨v,d,S,g,j,n,r,(t.perm q).less⟩;exact .inr a
theorem qgO{c:Code}(T:Tb)(a:P.funcs[f]? =some fn)(hb:fn.body=some c)(h:∀K,(K.F0=fun b=>b∈yl σ)→(∀d,XP d→K.X d [])→P.funcs[f]? =some fn→zh T Md.top P f fn K (RL R) [.code c] (yA 0 ds) σ):yX P f ds σ R XP:=quT (qtJ a hb fun K hK hX=>(h K hK hX a).h)
theorem qB0{T:Tb}{K:Ctx}{k:List Item}{env:Env}{id:Nat}{l:List Oper}{fz:List Nat}{ord:List (Nat×Cls)}(hc:ixl l.length (yV T.rg id)=ord)(hz:(yV T.fz id).getD []=fz)(h:Rn fz T P (ze Md.top P f fn K R k) (fun _=>K.X) l ord env σ)(hm:P.follows .mixedOrders=true:=by kernel_rfl)(hok:yw l.toArray fn.ntmps=true:=by kernel_rfl)(hA:zah l.toArray ord=true:=by kernel_rfl)(hx:ord.all (fun x=>decide (x.2≠.x))=true:=by rfl):zh T Md.top P f fn K R (.code (.region id l.toArray true)::k) env σ:=⟨qBX hm hok ord hA h.h hx⟩
theorem qDe{T:Tb}{m:Md}{K:Ctx}{k:List Item}{env:Env}{a:List Nat}{t b s n:Nat}{e:TypeId}{L:List D}{τ:St}(hs:lk env t=some (.arr b s 0 n))(c:σ.Perm ([.arr b L e s]++τ))(hn:L.length=n)(h:za8 a T m P f fn K R k ((t,.lst L)::env) τ):za8 (t::a) T m P f fn K R k env σ:=⟨qkz t hs c hn.symm h.h⟩
theorem t_fr{T:Tb}{m:Md}{K:Ctx}{k:List Item}{env:Env}(j:Nat){t b s n:Nat}{e:TypeId}{L:List D}{τ:St}(c:T.fr[j]? =some t)(hs:lk env t=some (.arr b s 0 n))(a:σ.Perm ([.arr b L e s]++τ))(hn:L.length=n)(h:zh T m P f fn K R (.code .ret::k) ((t,.lst L)::env) τ):zh T m P f fn K R (.code .ret::k) env σ:=⟨qkz t hs a hn.symm h.h⟩
end
theorem lnM{α β:Type}{f:α→β}{L:List α}{n:Nat}(h:L.length=n:=by exact lnE):(L.map f).length=n:=by rw[jh,h]
section
variable{fz:List Nat}{τb:Tb}{Q:Env→St→Prop}{μ:Md}{P:Program}{φ:FuncId}{fn:Func}{K:Ctx}{R:D→St→Prop}{κ:List Item}{X:Env→D→St→Prop}{l:List Oper}{i:Nat}{c:Cls}{rest:List (Nat×Cls)}{env:Env}{σ:St}{t:Nat}{ty:TypeId}
theorem zch{α β ν:Type}{q:Option α}{g:α→Option β}{v:β}{f:FuncId}{args:Array Operand}{a:Array TypeId}{F:ν→SpD α}{ds:List D}{s1 τ:St}{b:α→D→St→Prop}(nm:ν)(u:c.isW=true)(hr:q.bind g=some v)[x:CaI P f][z:Co P f q F](hF:F nm=⟨ds,s1,b⟩)(A:yZ (ev env) args.toList ds)(B:σ.Perm (s1++τ))(C:∀r d σ',q=some r→g r=some v→b r d σ'→Rn fz τb P Q X l rest ((t,d)::env) (σ'++τ)):AtO fz τb P Q X l i c rest env σ (some t) ty (.call {callee:=.value (.func f),args:=args,argTypes:=a}):=by
 refine⟨?_⟩;intro o E G H I J;obtain⟨r,j,L⟩:=zV hr;have n:=z.h nm r j;rw[hF]at n;refine z_w u E G H (qee τ I x.h A B n) fun d σ' e=>?_;obtain⟨σ1,M,rfl⟩:=e;exact(C r d σ1 j L M).h
end
theorem cA{C:Prop}(h:C:=by(repeat' (first|exact True.intro|apply Bo.mk|exact rfl|exact szT rfl|(simp[szs,sz,qfc];done)));done):C:=h
theorem cB{C:Prop}(h:C:=by(repeat' (first|exact True.intro|refine Bo.mk ?_ ?_|exact rfl|(simp[wkn,sz,szs,qfc];done)));done):C:=h
theorem remA{ks:List D}{σ υ:St}(h:Rem ks σ υ:=by(repeat(first|exact .nil|(apply Rem.own;exact pkz)|(apply Rem.ref;exact pkz)|(apply Rem.map;exact pkz)|(apply Rem.arr;exact pkz)|(apply Rem.vec;exact pkz)));done):Rem ks σ υ:=h
theorem lnA{α:Type}{env:Env}{L:List α}{ln:List Nat}(h:LenB env L.length ln:=by first|exact qzc rfl|exact qAD rfl rfl rfl rfl):LenB env L.length ln:=h
theorem inA{env:Env}{n:Int}{ln:List Nat}(h:zcu env n ln:=by first|exact qxO oa|exact qAt|exact qsq rfl):zcu env n ln:=h
theorem knA{b v:Bool}(h:b=v:=by first|assumption|(simp only[Bool.not_eq_true',Bool.not_eq_false'];assumption)):b=v:=h
theorem sdA{d e:D}(h:d=e:=by first|exact rfl|exact tmk _ _ _ _):d=e:=h
section
variable{fz:List Nat}{τb:Tb}{Q:Env→St→Prop}{μ:Md}{P:Program}{φ:FuncId}{fn:Func}{K:Ctx}{R:D→St→Prop}{κ:List Item}{X:Env→D→St→Prop}{l:List Oper}{i:Nat}{c:Cls}{rest:List (Nat×Cls)}{env:Env}{σ:St}{t:Option Tmp}{ty:TypeId}
theorem uR:Gu (Rn fz τb P Q X l rest env σ):=id
theorem uA{op:Op}:Gu (AtO fz τb P Q X l i c rest env σ t ty op):=id
theorem uG:Gu (zh τb μ P φ fn K R κ env σ):=id
theorem uSq{x y:Code}{κ:List Item}:Gu (zh τb μ P φ fn K R (.code (.seq x y)::κ) env σ):=id
theorem uSq2{x z y:Code}{κ:List Item}:Gu (zh τb μ P φ fn K R (.code (.seq x (.seq z y))::κ) env σ):=id
theorem uRg0{n:Nat}{x:Array Oper}{κ:List Item}:Gu (zh τb μ P φ fn K R (.code (.region n x false)::κ) env σ):=id
theorem uRg1{n:Nat}{x:Array Oper}{κ:List Item}:Gu (zh τb μ P φ fn K R (.code (.region n x true)::κ) env σ):=id
theorem uEx{n:Nat}{κ:List Item}:Gu (zh τb μ P φ fn K R (.code (.exit n)::κ) env σ):=id
theorem uBk{n:Nat}{x:Code}{κ:List Item}:Gu (zh τb μ P φ fn K R (.code (.block n x)::κ) env σ):=id
theorem uCd{o:Operand}{x y:Code}{κ:List Item}:Gu (zh τb μ P φ fn K R (.code (.cond o x y)::κ) env σ):=id
theorem uRt{κ:List Item}:Gu (zh τb μ P φ fn K R (.code .ret::κ) env σ):=id
theorem uRn(n:Nat){κ:List Item}(hn:fn.results.size=n):Gu (zh τb μ P φ fn K R (.code .ret::κ) env σ):=id
theorem uEn:Gu (zh τb μ P φ fn K R [] env σ):=id
theorem uLen{b:Array Operand}{a:Array TypeId}:Gu (AtO fz τb P Q X l i c rest env σ t ty (.call {callee:=.builtin .len,args:=b,argTypes:=a})):=id
theorem uApp{b:Array Operand}{a:Array TypeId}:Gu (AtO fz τb P Q X l i c rest env σ t ty (.call {callee:=.builtin .append,args:=b,argTypes:=a})):=id
theorem uIdx{x:Operand}{y:Operand}{a:TypeId}:Gu (AtO fz τb P Q X l i c rest env σ t ty (.indexAddr a x y)):=id
theorem uBin{x:Operand}{y:Operand}{b:TypeId}{a:TypeId}{e:BinOp}:Gu (AtO fz τb P Q X l i c rest env σ t ty (.binOp e b x y a)):=id
theorem uFld{x:Operand}{a:TypeId}{n:Nat}:Gu (AtO fz τb P Q X l i c rest env σ t ty (.fieldAddr a x n)):=id
theorem uLod{x:Operand}{a:TypeId}:Gu (AtO fz τb P Q X l i c rest env σ t ty (.load a x)):=id
theorem uSto{x:Operand}{y:Operand}{a:TypeId}:Gu (AtO fz τb P Q X l i c rest env σ t ty (.store a x y)):=id
theorem uBld{a:TypeId}{ps:Array (Nat×Operand)}:Gu (AtO fz τb P Q X l i c rest env σ t ty (.build a ps)):=id
theorem uLit{a:TypeId}{n:Nat}{ps:Array (Nat×Operand)}:Gu (AtO fz τb P Q X l i c rest env σ t ty (.buildSlice a n ps)):=id
theorem uAsg{x:Operand}:Gu (AtO fz τb P Q X l i c rest env σ t ty (.assign x)):=id
theorem uAlc{a:TypeId}:Gu (AtO fz τb P Q X l i c rest env σ t ty (.alloc a)):=id
theorem uBox{x:Operand}{a:TypeId}:Gu (AtO fz τb P Q X l i c rest env σ t ty (.box a x)):=id
theorem uSlc{x:Operand}{a:TypeId}{lo:Option Operand}{hi:Option Operand}{b:Option Operand}:Gu (AtO fz τb P Q X l i c rest env σ t ty (.slice a x lo hi b)):=id
theorem uNck{x:Operand}:Gu (AtO fz τb P Q X l i c rest env σ t ty (.nilCheck x)):=id
theorem uSlT{x y:Operand}{a:TypeId}:Gu (AtO fz τb P Q X l i c rest env σ t ty (.slice a x none (some y) none)):=id
theorem uBl2{x y:Operand}{a:TypeId}:Gu (AtO fz τb P Q X l i c rest env σ t ty (.build a #[(0,x),(1,y)])):=id
theorem uMkf{g:Fn}{a b:Array Operand}:Gu (AtO fz τb P Q X l i c rest env σ t ty (.makeFunc g a b)):=id
theorem uMks{a:TypeId}{x y:Operand}:Gu (AtO fz τb P Q X l i c rest env σ t ty (.makeSlice a x y)):=id
theorem uMax{b:Array Operand}{a:Array TypeId}:Gu (AtO fz τb P Q X l i c rest env σ t ty (.call {callee:=.builtin .max,args:=b,argTypes:=a})):=id
theorem uMin{b:Array Operand}{a:Array TypeId}:Gu (AtO fz τb P Q X l i c rest env σ t ty (.call {callee:=.builtin .min,args:=b,argTypes:=a})):=id
theorem uLk1{a:TypeId}{x y:Operand}:Gu (AtO fz τb P Q X l i c rest env σ t ty (.lookup a x y true)):=id
theorem uLk0{a:TypeId}{x y:Operand}:Gu (AtO fz τb P Q X l i c rest env σ t ty (.lookup a x y false)):=id
theorem uMk0{a:TypeId}:Gu (AtO fz τb P Q X l i c rest env σ t ty (.makeMap a none)):=id
theorem uMk1{a:TypeId}{x:Operand}:Gu (AtO fz τb P Q X l i c rest env σ t ty (.makeMap a (some x))):=id
theorem uCf{b:Array Operand}{a:Array TypeId}{x:FuncId}:Gu (AtO fz τb P Q X l i c rest env σ t ty (.call {callee:=.value (.func x),args:=b,argTypes:=a})):=id
theorem uCt{b:Array Operand}{a:Array TypeId}{x:Tmp}:Gu (AtO fz τb P Q X l i c rest env σ t ty (.call {callee:=.value (.tmp x),args:=b,argTypes:=a})):=id
theorem uUpd{a:TypeId}{x y z:Operand}:Gu (AtO fz τb P Q X l i c rest env σ t ty (.mapUpdate a x y z)):=id
theorem uMen{a:TypeId}{x y:Operand}:Gu (AtO fz τb P Q X l i c rest env σ t ty (.mapEntry a x y)):=id
theorem uEst{a:TypeId}{x y z:Operand}:Gu (AtO fz τb P Q X l i c rest env σ t ty (.entryStore a x y z)):=id
theorem uPan{x:Operand}:Gu (AtO fz τb P Q X l i c rest env σ t ty (.panic x)):=id
theorem uIfc{a:TypeId}{x:Operand}:Gu (AtO fz τb P Q X l i c rest env σ t ty (.makeInterface a x)):=id
end
theorem uPB0{T:Tb}{P:Program}{l:List Oper}{J:Env→St→Prop}{pl:Pl}{pre:List (Nat×Cls)}{env:Env}{σ:St}:Gu (PB 0 T P l J pl pre env σ):=id
theorem uPB1{T:Tb}{P:Program}{l:List Oper}{J:Env→St→Prop}{pl:Pl}{pre:List (Nat×Cls)}{env:Env}{σ:St}:Gu (PB 1 T P l J pl pre env σ):=id
theorem uPB2{T:Tb}{P:Program}{l:List Oper}{J:Env→St→Prop}{pl:Pl}{pre:List (Nat×Cls)}{env:Env}{σ:St}:Gu (PB 2 T P l J pl pre env σ):=id
theorem uPB3{T:Tb}{P:Program}{l:List Oper}{J:Env→St→Prop}{pl:Pl}{pre:List (Nat×Cls)}{env:Env}{σ:St}:Gu (PB 3 T P l J pl pre env σ):=id
theorem uPW{T:Tb}{P:Program}{l:List Oper}{J:Env→St→Prop}{pl:Pl}{b:Bool}{env:Env}{σ:St}:Gu (PW T P l J pl b env σ):=id
theorem isKt{β ρ:Type}{kk:Kt β ρ}{s:β}{r:ρ}(_:kk.f s=some r):True:=trivial
theorem wk{G:Prop}(h:G:=by
 repeat' (first
  |(apply uR;first
   |apply qpH
   |apply qCe
   |refine qoL rfl cA ?_
   |refine z_rT rfl rfl rfl cA ?_
   |refine z_rF rfl rfl rfl cA ?_
   |refine z_rU rfl rfl rfl cA ?_
   |refine zcr rfl ?_
   |refine z_bg hr rfl rfl (fun hb hr=>?_) (fun hb hr=>?_)
   |refine z_kg rfl rfl knA ?_)
  |(apply uA;first
   |(apply uLen;first
    |refine qC2 rfl ?_
    |refine qBC rfl rfl ?_
    |refine qCm rfl ?_
    |refine qBL rfl ?_)
   |(apply uCt;first
    |(have hkx:=hX;clear hkx;first
     |((first|refine qxD _ rfl hr rfl rfl (by exact rfl) pkz hX (fun k e=>⟨k,e.symm,rfl⟩) ?_|refine qxD (_,_) rfl hr rfl rfl (by exact rfl) pkz hX (fun k e=>⟨k,e.symm,rfl⟩) ?_|refine qxD (_,_,_) rfl hr rfl rfl (by exact rfl) pkz hX (fun k e=>⟨k,e.symm,rfl⟩) ?_);intro r d sg hq hr hR;(repeat obtain⟨u,hR⟩:=hR);subst u;simp only[zbH,jy,jq]))
    |refine z_cv hr rfl rfl rfl (fun r hq hr=>?_)
    |((first|refine qzb _ rfl hr rfl rfl (by exact rfl) pkz ?_|refine qzb (_,_) rfl hr rfl rfl (by exact rfl) pkz ?_|refine qzb (_,_,_) rfl hr rfl rfl (by exact rfl) pkz ?_|refine qzb (_,_,_,_) rfl hr rfl rfl (by exact rfl) pkz ?_);intro r d sg hq hr hR;(repeat obtain⟨u,hR⟩:=hR);subst u;simp only[zbH,jy,jq]))
   |(apply uCf;first
    |(have hkx:=hX;clear hkx;first
     |(refine qDa rfl hr opA hX (fun k e=>⟨k,e.symm,rfl⟩) (fun r hq hr=>?_);simp only[zbH])
     |((first|refine qAa _ rfl hr (by exact rfl) opA pkz hX (fun k e=>⟨k,e.symm,rfl⟩) ?_|refine qAa (_,_) rfl hr (by exact rfl) opA pkz hX (fun k e=>⟨k,e.symm,rfl⟩) ?_|refine qAa (_,_,_) rfl hr (by exact rfl) opA pkz hX (fun k e=>⟨k,e.symm,rfl⟩) ?_);intro r d sg hq hr hR;(repeat obtain⟨u,hR⟩:=hR);subst u;simp only[zbH,jy,jq]))
    |refine z_cc hr opA (fun r hq hr=>?_)
    |((first|refine zch () rfl hr (by exact rfl) opA pkz ?_|refine zch _ rfl hr (by exact rfl) opA pkz ?_|refine zch (_,_) rfl hr (by exact rfl) opA pkz ?_|refine zch (_,_,_) rfl hr (by exact rfl) opA pkz ?_|refine zch (_,_,_,_) rfl hr (by exact rfl) opA pkz ?_|refine zch (_,_,_,_,_) rfl hr (by exact rfl) opA pkz ?_|refine zch (_,_,_,_,_,_,_) rfl hr (by exact rfl) opA pkz ?_|refine zch (_,_,_,_,_,_,_,_) rfl hr (by exact rfl) opA pkz ?_|refine zch (_,_,_,_,_,_) rfl hr (by exact rfl) opA pkz ?_);intro r d sg hq hr hR;(repeat obtain⟨u,hR⟩:=hR);subst u;simp only[jy,jq])
    |first|refine qyI hrx0 opA ?_|refine qyI hrx1 opA ?_|refine qyI hrx2 opA ?_|refine qyI hrx3 opA ?_
    |((first|refine qfl _ hrx0 rfl (by exact rfl) opA pkz ?_|refine qfl (_,_) hrx0 rfl (by exact rfl) opA pkz ?_|refine qfl (_,_,_) hrx0 rfl (by exact rfl) opA pkz ?_|refine qfl (_,_,_,_) hrx0 rfl (by exact rfl) opA pkz ?_|refine qfl (_,_,_,_,_) hrx0 rfl (by exact rfl) opA pkz ?_|refine qfl (_,_,_,_,_,_,_) hrx0 rfl (by exact rfl) opA pkz ?_|refine qfl (_,_,_,_,_,_,_,_) hrx0 rfl (by exact rfl) opA pkz ?_|refine qfl (_,_,_,_,_,_) hrx0 rfl (by exact rfl) opA pkz ?_|refine qfl _ hrx1 rfl (by exact rfl) opA pkz ?_|refine qfl (_,_) hrx1 rfl (by exact rfl) opA pkz ?_|refine qfl (_,_,_) hrx1 rfl (by exact rfl) opA pkz ?_|refine qfl (_,_,_,_) hrx1 rfl (by exact rfl) opA pkz ?_|refine qfl (_,_,_,_,_) hrx1 rfl (by exact rfl) opA pkz ?_|refine qfl (_,_,_,_,_,_,_) hrx1 rfl (by exact rfl) opA pkz ?_|refine qfl (_,_,_,_,_,_,_,_) hrx1 rfl (by exact rfl) opA pkz ?_|refine qfl (_,_,_,_,_,_) hrx1 rfl (by exact rfl) opA pkz ?_|refine qfl _ hrx2 rfl (by exact rfl) opA pkz ?_|refine qfl (_,_) hrx2 rfl (by exact rfl) opA pkz ?_|refine qfl (_,_,_) hrx2 rfl (by exact rfl) opA pkz ?_|refine qfl (_,_,_,_) hrx2 rfl (by exact rfl) opA pkz ?_|refine qfl (_,_,_,_,_) hrx2 rfl (by exact rfl) opA pkz ?_|refine qfl (_,_,_,_,_,_,_) hrx2 rfl (by exact rfl) opA pkz ?_|refine qfl (_,_,_,_,_,_,_,_) hrx2 rfl (by exact rfl) opA pkz ?_|refine qfl (_,_,_,_,_,_) hrx2 rfl (by exact rfl) opA pkz ?_|refine qfl _ hrx3 rfl (by exact rfl) opA pkz ?_|refine qfl (_,_) hrx3 rfl (by exact rfl) opA pkz ?_|refine qfl (_,_,_) hrx3 rfl (by exact rfl) opA pkz ?_|refine qfl (_,_,_,_) hrx3 rfl (by exact rfl) opA pkz ?_|refine qfl (_,_,_,_,_) hrx3 rfl (by exact rfl) opA pkz ?_|refine qfl (_,_,_,_,_,_,_) hrx3 rfl (by exact rfl) opA pkz ?_|refine qfl (_,_,_,_,_,_,_,_) hrx3 rfl (by exact rfl) opA pkz ?_|refine qfl (_,_,_,_,_,_) hrx3 rfl (by exact rfl) opA pkz ?_);intro d sg hR;(repeat obtain⟨u,hR⟩:=hR);subst u;simp only[zbH,jy,jq]))
   |(apply uBox;first
    |refine qDb rfl rfl ?_
    |refine qAm rfl rfl (fun b=>?_)
    |refine qBP rfl rfl rfl (fun b=>?_))
   |(apply uIdx;first
    |refine qCs hr rfl (fun q hq hr=>?_)
    |refine qBw hr rfl pkz lnE (fun q hq hr=>?_)
    |refine qAl rfl pkz (by assumption) lnE ?_
    |refine qzm (m:=0) rfl od rfl rfl ?_
    |refine qzm (m:=1) rfl od rfl rfl ?_
    |refine qBg (m:=0) rfl od ?_
    |refine qBg (m:=1) rfl od ?_
    |refine qCL rfl hr rfl pkz (fun q hq hr=>?_)
    |refine qAT rfl rfl pkz (by assumption) ?_
    |refine qBp (by assumption) rfl ?_)
   |(apply uBin;first
    |refine qDx rfl oa ?_
    |refine qBU rfl oa ?_
    |refine qCE rfl oa ?_
    |refine qC9 rfl ?_
    |refine qBT rfl od ?_
    |refine qC1 rfl rfl ?_
    |refine qDd rfl rfl ?_
    |refine qDM rfl ?_)
   |(apply uFld;first
    |refine z_ft rfl (ft0 _) rfl rfl ?_
    |refine z_ft rfl (ft1 _) rfl rfl ?_
    |refine z_ft rfl (ft2 _) rfl rfl ?_
    |refine z_ft rfl (ft3 _) rfl rfl ?_
    |refine z_fr rfl rfl rfl ?_
    |refine qDv rfl rfl rfl ?_)
   |(apply uLod;first
    |refine z_ld rfl rfl memA rfl rfl rfl szA ?_
    |refine qDJ rfl rfl memA rfl ofA rfl rfl szA ?_
    |refine qBq rfl rfl pkz (by assumption) rfl rfl rfl szA ?_
    |refine qBq rfl rfl pkz (qsl (by assumption)) rfl rfl rfl szA ?_
    |refine qC5 rfl rfl pkz (by assumption) rfl rfl rfl szA ?_)
   |(apply uSto;first
    |refine qBt rfl rfl pkz rfl rfl szA ?_
    |refine qDu rfl rfl pkz wkA rfl rfl szA szA ?_
    |refine zb5 [_] rfl rfl pkz rfl wkA rfl rfl szA szA rfl ?_
    |refine zb5 [_,_] rfl rfl pkz rfl wkA rfl rfl szA szA rfl ?_
    |refine zb5 [_,_,_] rfl rfl pkz rfl wkA rfl rfl szA szA rfl ?_
    |refine zb5 [_,_,_,_] rfl rfl pkz rfl wkA rfl rfl szA szA rfl ?_
    |refine zb5 [_,_,_,_,_] rfl rfl pkz rfl wkA rfl rfl szA szA rfl ?_
    |refine zb5 [_,_,_,_,_,_] rfl rfl pkz rfl wkA rfl rfl szA szA rfl ?_
    |refine zb5 [_,_,_,_,_,_,_] rfl rfl pkz rfl wkA rfl rfl szA szA rfl ?_
    |refine zb5 [_,_,_,_,_,_,_,_] rfl rfl pkz rfl wkA rfl rfl szA szA rfl ?_
    |refine qCc [_,_] rfl rfl pkz rfl ofA wkA rfl rfl szA szA rfl ?_
    |refine qCc [_,_,_] rfl rfl pkz rfl ofA wkA rfl rfl szA szA rfl ?_
    |refine qB2 rfl hr rfl pkz (by assumption) rfl wkA sdA rfl rfl szA szA (fun r hq hr=>?_)
    |refine qB2 rfl hr rfl pkz (qsl (by assumption)) rfl wkA sdA rfl rfl szA szA (fun r hq hr=>?_)
    |(refine qDl rfl hr rfl pkz (by assumption) rfl wkA sdA rfl rfl szA szA (fun r hq hr=>?_);try rw[←qiV hq]))
   |(apply uBl2;refine qBu rfl ?_)
   |(apply uBldA;first
    |refine qtD [_,_] rfl cB rfl ?_
    |refine qtD [_] rfl cB rfl ?_
    |refine qtD [_,_,_] rfl cB rfl ?_
    |refine qtD [_,_,_,_] rfl cB rfl ?_)
   |(apply uIxA;refine qC6 hr rfl rfl (fun q hq hr=>?_))
   |(apply uBld;first
    |refine qrg [] rfl cB ?_
    |refine qrg [_] rfl cB ?_
    |refine qrg [_,_] rfl cB ?_
    |refine qrg [_,_,_] rfl cB ?_
    |refine qrg [_,_,_,_] rfl cB ?_
    |refine qrg [_,_,_,_,_] rfl cB ?_
    |refine qrg [_,_,_,_,_,_] rfl cB ?_
    |refine qrg [_,_,_,_,_,_,_] rfl cB ?_)
   |(apply uLit;first
    |refine qBS rfl rfl hr rfl (Nat.succ_pos _) od (fun u hr=>?_)
    |refine qCa rfl rfl alA rfl od ?_
    |refine qCY rfl alA rfl od ?_
    |refine qAO rfl rfl (fun u=>?_)
    |refine qxk rfl ?_)
   |(apply uApp;first
    |refine qB9 rfl hr rfl rfl rfl pkz rfl (fun r u hq hr=>?_)
    |refine qCK hr rfl rfl rfl (fun r hq hr=>?_)
    |refine qCH rfl hr rfl rfl pkz (fun r u hq hr=>?_)
    |refine qBi (by assumption) rfl rfl rfl rfl pkz rfl (fun u=>?_))
   |(apply uAsg;refine qB5 rfl rfl (fun u=>?_))
   |(apply uAlc;first
    |refine qyq rfl rfl (fun b=>?_)
    |refine qBe rfl (fun b=>?_))
   |(apply uCnv;refine qCR rfl ?_)
   |(apply uNck;refine qDw rfl ?_)
   |(apply uSl3;refine qBo hr rfl (fun r hq hr=>?_))
   |(apply uSlT;refine qDz rfl hr rfl pkz (fun r u hq hr=>?_))
   |(apply uSlc;refine qDk hr rfl (by first|exact qAA|exact qAM rfl) (by first|exact qAv|exact qz2 rfl) (fun r hq hr=>?_))
   |(apply uMkf;refine qDC rfl ?_)
   |(apply uMks;first
    |refine qBa rfl hr rfl (fun r u hq hr=>?_)
    |refine qDi rfl hr rfl rfl (fun r b hq hr=>?_))
   |(apply uMk0;refine qDp rfl (fun r=>?_))
   |(apply uMk1;refine qBE rfl rfl (fun r=>?_))
   |(apply uLk1;refine qDN rfl (by exact rfl) pkz ?_)
   |(apply uLk0;refine qDg rfl (by exact rfl) pkz ?_)
   |(apply uUpd;refine qCX rfl hr (by exact rfl) wkA pkz (fun r hq hr=>?_))
   |(apply uMen;refine qCT rfl hr (by exact rfl) pkz (fun r es cl st hq hr hst=>?_))
   |(apply uEst;refine qDP rfl hr rfl wkA pkz (by assumption) (fun r hq hr=>?_))
   |(apply uIfc;refine qDs rfl rfl ?_)
   |(apply uPan;cases hr;exact qA9 rfl rfl hX ⟨_,rfl,rfl⟩)
   |(apply uMax;refine qDD rfl ?_)
   |(apply uMin;refine qDq rfl ?_))
  |apply qpA
  |(apply uG;first
   |(have hkt:=isKt hr;clear hkt;exact hkT hr (by assumption) rfl sbA rfl pkz)
   |(apply uSq;first
    |(refine qBh hr rfl rfl rfl remA (fun s hus hss hr=>?_) (fun kk HK hr=>?_)<;>try simp only[jy,jq])
    |(apply uSq2;refine qAj hr rfl rfl rfl remA (fun s hus hss hr=>?_) (fun kk HK hr=>?_)<;>try simp only[jy,jq])
    |apply qnY)
   |(apply uBk;first
    |(refine qBD hr rfl rfl rfl remA (fun s hus hss hr=>?_) (fun kk HK hr=>?_)<;>try simp only[jy,jq])
    |(refine qDf hr rfl rfl rfl sbA pkz lnA (fun s hus hss hd hr=>?_) (fun i q s hus hss nx hq hd hlt hl IH hr=>?_)<;>try simp only[jy,jq])
    |(refine qC4 hr rfl rfl rfl sbA pkz inA (fun s hus hss hd hr=>?_) (fun i s hus hss nx hd hl IH hr=>?_)<;>try simp only[jy,jq])
    |(refine qDr hr rfl rfl rfl sbA pkz inA inA (fun i s hus hss hd hr=>?_) (fun i s hus hss nx hd hlt hl hl' IH hr=>?_)<;>try simp only[jy,jq])
    |(refine qDh hr rfl rfl rfl sbA pkz (fun s hus hss nx IH hr=>?_)<;>try simp only[jy,jq])
    |apply qAN)
   |(apply uCd;first
    |refine qAE rfl ?_
    |refine qz7 rfl ?_
    |refine t_br hr rfl (fun hb hr=>?_) (fun hb hr=>?_)
    |refine t_cT rfl knA ?_
    |refine t_cF rfl knA ?_)
   |(apply uDf;refine qy7 rfl rfl rfl rfl rfl ?_)
   |(apply uRg0;first
    |refine qDn rfl rfl rfl rfl ?_
    |refine zbZ rfl ?_
    |refine qDG rfl ⟨rfl,rfl⟩ ?_)
   |(apply uRg1;first
    |(refine qCp rfl hr rfl remA (fun r hr=>?_) (fun r nm hq hr=>?_);rotate_left;(try simp only[J3,Option.some.injEq]at hq);(first|obtain⟨a1,e1,a2,e2,a3,e3,a4,e4,rfl⟩:=hq|obtain⟨a1,e1,a2,e2,a3,e3,rfl⟩:=hq|obtain⟨a1,e1,a2,e2,rfl⟩:=hq|obtain⟨a1,e1,rfl⟩:=hq|subst hq|skip);rotate_right;all_goals try simp only[jy,jq])
    |refine qCv rfl rfl rfl rfl rfl ?_
    |(have hkx:=hX;clear hkx;refine qB0 rfl rfl ?_)
    |refine qDE rfl rfl ?_)
   |(apply uEx;first
    |refine qz9 rfl rfl ?_
    |refine qCF rfl ?_)
   |apply qwI
   |apply qBb
   |apply qAK
   |apply qxh
   |(apply uRt;first
    |(cases hr;refine qCo (ds:=[_,_]) (by assumption) pkz ⟨_,_,rfl,rfl⟩ pkz zaX)
    |refine t_fr 0 rfl rfl pkz lnM ?_
    |refine t_fr 1 rfl rfl pkz lnM ?_
    |(refine uRn 0 rfl ?_;first|(have hkx:=hX;clear hkx;cases hr;first|refine qpP (ds:=[]) (by assumption) ⟨_,rfl,rfl⟩ zaX|refine qsw (ds:=[]) (by assumption) ⟨_,rfl,rfl,rfl⟩ pkz zaX|refine qsw (ds:=[]) (by assumption) ⟨_,rfl,_,rfl,rfl⟩ pkz zaX)|(cases hr;first|refine qpP (ds:=[]) (by assumption) rfl zaX|refine qsw (ds:=[]) (by assumption) ⟨rfl,rfl⟩ pkz zaX|refine qsw (ds:=[]) (by assumption) ⟨_,rfl,rfl⟩ pkz zaX|refine qsw (ds:=[]) (by assumption) ⟨_,_,rfl,rfl⟩ pkz zaX|refine qsw (ds:=[]) (by assumption) ⟨_,_,_,rfl,rfl⟩ pkz zaX))
    |(refine uRn 1 rfl ?_;first|(have hkx:=hX;clear hkx;cases hr;first|refine qpP (ds:=[_]) (by assumption) ⟨_,rfl,rfl⟩ zaX|refine qsw (ds:=[_]) (by assumption) ⟨_,rfl,rfl,rfl⟩ pkz zaX|refine qsw (ds:=[_]) (by assumption) ⟨_,rfl,_,rfl,rfl⟩ pkz zaX|refine qsw (ds:=[_]) (by assumption) ⟨_,rfl,_,_,rfl,rfl⟩ pkz zaX)|(cases hr;first|refine qpP (ds:=[_]) (by assumption) rfl zaX|refine qsw (ds:=[_]) (by assumption) ⟨rfl,rfl⟩ pkz zaX|refine qsw (ds:=[_]) (by assumption) ⟨_,rfl,rfl⟩ pkz zaX|refine qsw (ds:=[_]) (by assumption) ⟨_,_,rfl,rfl⟩ pkz zaX|refine qsw (ds:=[_]) (by assumption) ⟨_,_,_,rfl,rfl⟩ pkz zaX|refine qsw (ds:=[_]) (by assumption) ⟨_,_,_,_,rfl,rfl⟩ pkz zaX|refine qsw (ds:=[_]) (by assumption) ⟨_,_,_,_,_,rfl,rfl⟩ pkz zaX|refine qsw (ds:=[_]) (by assumption) ⟨_,_,_,_,_,_,rfl,rfl⟩ pkz zaX|refine qsw (ds:=[_]) (by assumption) ⟨_,_,_,_,_,_,_,rfl,rfl⟩ pkz zaX))
    |(refine uRn 2 rfl ?_;first|(have hkx:=hX;clear hkx;cases hr;first|refine qpP (ds:=[_,_]) (by assumption) ⟨_,rfl,rfl⟩ zaX|refine qsw (ds:=[_,_]) (by assumption) ⟨_,rfl,rfl,rfl⟩ pkz zaX|refine qsw (ds:=[_,_]) (by assumption) ⟨_,rfl,_,rfl,rfl⟩ pkz zaX|refine qsw (ds:=[_,_]) (by assumption) ⟨_,rfl,_,_,rfl,rfl⟩ pkz zaX)|(cases hr;first|refine qpP (ds:=[_,_]) (by assumption) rfl zaX|refine qsw (ds:=[_,_]) (by assumption) ⟨rfl,rfl⟩ pkz zaX|refine qsw (ds:=[_,_]) (by assumption) ⟨_,rfl,rfl⟩ pkz zaX|refine qsw (ds:=[_,_]) (by assumption) ⟨_,_,rfl,rfl⟩ pkz zaX|refine qsw (ds:=[_,_]) (by assumption) ⟨_,_,_,rfl,rfl⟩ pkz zaX))
    |(refine uRn 3 rfl ?_;first|(have hkx:=hX;clear hkx;cases hr;first|refine qpP (ds:=[_,_,_]) (by assumption) ⟨_,rfl,rfl⟩ zaX|refine qsw (ds:=[_,_,_]) (by assumption) ⟨_,rfl,rfl,rfl⟩ pkz zaX|refine qsw (ds:=[_,_,_]) (by assumption) ⟨_,rfl,_,rfl,rfl⟩ pkz zaX|refine qsw (ds:=[_,_,_]) (by assumption) ⟨_,rfl,_,_,rfl,rfl⟩ pkz zaX)|(cases hr;first|refine qpP (ds:=[_,_,_]) (by assumption) rfl zaX|refine qsw (ds:=[_,_,_]) (by assumption) ⟨rfl,rfl⟩ pkz zaX|refine qsw (ds:=[_,_,_]) (by assumption) ⟨_,rfl,rfl⟩ pkz zaX|refine qsw (ds:=[_,_,_]) (by assumption) ⟨_,_,rfl,rfl⟩ pkz zaX|refine qsw (ds:=[_,_,_]) (by assumption) ⟨_,_,_,rfl,rfl⟩ pkz zaX))
    |(refine uRn 4 rfl ?_;first|(have hkx:=hX;clear hkx;cases hr;first|refine qpP (ds:=[_,_,_,_]) (by assumption) ⟨_,rfl,rfl⟩ zaX|refine qsw (ds:=[_,_,_,_]) (by assumption) ⟨_,rfl,rfl,rfl⟩ pkz zaX|refine qsw (ds:=[_,_,_,_]) (by assumption) ⟨_,rfl,_,rfl,rfl⟩ pkz zaX|refine qsw (ds:=[_,_,_,_]) (by assumption) ⟨_,rfl,_,_,rfl,rfl⟩ pkz zaX)|(cases hr;first|refine qpP (ds:=[_,_,_,_]) (by assumption) rfl zaX|refine qsw (ds:=[_,_,_,_]) (by assumption) ⟨rfl,rfl⟩ pkz zaX|refine qsw (ds:=[_,_,_,_]) (by assumption) ⟨_,rfl,rfl⟩ pkz zaX|refine qsw (ds:=[_,_,_,_]) (by assumption) ⟨_,_,rfl,rfl⟩ pkz zaX|refine qsw (ds:=[_,_,_,_]) (by assumption) ⟨_,_,_,rfl,rfl⟩ pkz zaX)))
   |(apply uEn;first|(have hkx:=hX;clear hkx;cases hr;first|refine qDL (ds:=[]) (by assumption) ⟨_,rfl,rfl⟩ zaX|refine qBf (ds:=[]) (by assumption) ⟨_,rfl,rfl,rfl⟩ pkz zaX|refine qBf (ds:=[]) (by assumption) ⟨_,rfl,_,rfl,rfl⟩ pkz zaX)|(cases hr;first|refine qDL (ds:=[]) (by assumption) rfl zaX|refine qBf (ds:=[]) (by assumption) ⟨rfl,rfl⟩ pkz zaX|refine qBf (ds:=[]) (by assumption) ⟨_,rfl,rfl⟩ pkz zaX|refine qBf (ds:=[]) (by assumption) ⟨_,_,rfl,rfl⟩ pkz zaX|refine qBf (ds:=[]) (by assumption) ⟨_,_,_,rfl,rfl⟩ pkz zaX)))
  |(apply uPB0;first
   |(obtain⟨rx0,hrx0,hr⟩:=zV hr;refine pbS ?_)
   |(obtain rfl:=Option.some.inj hr;refine pbeg rfl ?_))
  |(apply uPB1;first
   |(obtain⟨rx1,hrx1,hr⟩:=zV hr;refine pbS ?_)
   |(obtain rfl:=Option.some.inj hr;refine pbeg rfl ?_))
  |(apply uPB2;first
   |(obtain⟨rx2,hrx2,hr⟩:=zV hr;refine pbS ?_)
   |(obtain rfl:=Option.some.inj hr;refine pbeg rfl ?_))
  |(apply uPB3;first
   |(obtain⟨rx3,hrx3,hr⟩:=zV hr;refine pbS ?_)
   |(obtain rfl:=Option.some.inj hr;refine pbeg rfl ?_))
  |(apply uPW;first
   |apply w_no
   |refine qDA ?_ ?_
   |exact qy8 _ rfl sbA pkz
   |exact qy8 (_,_) rfl sbA pkz
   |exact qy8 (_,_,_) rfl sbA pkz
   |exact qy8 (_,_,_,_) rfl sbA pkz)
  |refine qCk rfl pkz ?_
  |refine qDe rfl pkz lnM ?_)):G:=h
section
variable{fz:List Nat}{τb:Tb}{Q:Env→St→Prop}
variable{P:Program}{X:Env→D→St→Prop}{l:List Oper}{i:Nat}{c:Cls}{o:Oper}{t:Nat}{ty:TypeId}{d:D}{env:Env}{σ:St}{rest:List (Nat×Cls)}
theorem qwi{α:Type}{f:α→D}{x:Operand}{a t2 e:TypeId}{s by_:Nat}{g:D}{L:List α}(j:c.isW=true)(h:(ev env x,asL g)=(some g,some (L.map f)))[n:ElI P a e s by_][hF:EF P e α f s](q:∀b,(b=true→L=[])→Rn fz τb P Q X l rest ((t,.bool b)::env) σ):AtO fz τb P Q X l i c rest env σ (some t) ty (.binOp .eql a x (.const (.slice none 0 0)) t2):=by
 refine⟨?_⟩;intro o r u v z A;simp only[Prod.mk.injEq]at h;refine z_w j r u v (qod z n.h h.1 (asl h.2) (zaQ hF.h)) fun d' σ' e=>?_;obtain⟨b,rfl,hb,rfl⟩:=e;exact(q b fun B=>by simpa using hb B).h
theorem qut{α:Type}{f:α→D}{x y:Operand}{a e:TypeId}{s by_:Nat}{g:D}{M:List α}(j:c.isW=true)(h:(ev env x,ev env y)=(some (.full []),some g))[n:ElI P a e s by_][hF:EF P e α f s](hm:asL g=some (M.map f))(hb:M.length*by_≤140737488355328)(q:∀b,Rn fz τb P Q X l rest ((t,.arr b s 0 M.length)::env) (.arr b (M.map f) e s::σ)):AtO fz τb P Q X l i c rest env σ (some t) ty (.call {callee:=.builtin .append,args:=#[x,y],argTypes:=#[a,a]}):=by
 refine⟨?_⟩;intro o r u v z A;simp only[Prod.mk.injEq]at h;refine z_w j r u v (qyB z n.h h.1 h.2 (asl hm) (zaQ hF.h) (by rw[jh];exact hb)) fun d' σ' e=>?_;obtain⟨b,rfl,rfl⟩:=e;rw[jh];exact(q b).h
theorem qyb{a e:TypeId}{s by_:Nat}(g:c.isW=true)[j:ElI P a e s by_](n:∀b,Rn fz τb P Q X l rest ((t,.arr b s 0 0)::env) (.arr b [] e s::σ)):AtO fz τb P Q X l i c rest env σ (some t) a (.assign (.const (.slice none 0 0))):=by
 refine⟨?_⟩;intro o q r u v x;refine z_w g q r u (qyn (e:=e) (s:=s) j.h.2.2 (.inl v)) fun d' σ' h=>?_;obtain⟨b,rfl,rfl⟩:=h;exact(n b).h
end
theorem t_cS{T:Tb}{m:Md}{P:Program}{f:FuncId}{fn:Func}{K:Ctx}{R:D→St→Prop}{k:List Item}{env:Env}{σ:St}{x y:Code}{s:Nat}{b:Bool}(hs:lk env s=some (.bool b))(a:b=true→zh T m P f fn K R (.code x::k) ((s,.bool true)::env) σ)(e:b=false→zh T m P f fn K R (.code y::k) ((s,.bool false)::env) σ):zh T m P f fn K R (.code (.cond (.tmp s) x y)::k) env σ:=by
 cases b with
 |true=>exact⟨qbB s hs (fun hb=>qS (by simp only[ev,qa5,if_pos]) (a rfl).h) fun hb=>by cases hb⟩
 |false=>exact⟨qbB s hs (fun hb=>by cases hb) fun hb=>qL (by simp only[ev,qa5,if_pos]) (e rfl).h⟩
theorem zbv{G:Prop}(h:G:=by
 refine qnY ?_;refine zbZ rfl ?_;refine qoL rfl cA ?_;apply qpH;apply qpA;refine qnY ?_;refine qnY ?_;refine zbZ rfl ?_;refine qoL rfl cA ?_;refine zcr rfl ?_;refine qwi rfl rfl (fun b hb=>?_);apply qpH;apply qpA;refine t_cS rfl (fun h=>?_) (fun h=>?_);obtain rfl:=hb h;refine qnY ?_;refine zbZ rfl ?_;refine zcr rfl ?_;refine qyb rfl (fun b=>?_);apply qpH;apply qpA;exact qpP (ds:=[_]) (by assumption) ⟨_,rfl,rfl⟩ zaX;refine qwI ?_;refine qnY ?_;refine zbZ rfl ?_;refine zcr rfl ?_;refine qxk rfl ?_;refine qoL rfl cA ?_;refine zcr rfl ?_;refine qut rfl rfl rfl (by assumption) (fun b=>?_);refine qoL rfl cA ?_;apply qpH;apply qpA;exact qpP (ds:=[_]) (by assumption) ⟨_,rfl,rfl⟩ zaX):G:=h
theorem zbx{G:Prop}(h:G:=by
 refine qnY ?_;refine zbZ rfl ?_;refine qoL rfl cA ?_;apply qpH;apply qpA;refine qnY ?_;refine qnY ?_;refine zbZ rfl ?_;refine qoL rfl cA ?_;refine zcr rfl ?_;refine qwi rfl rfl (fun b hb=>?_);apply qpH;apply qpA;refine t_cS rfl (fun h=>?_) (fun h=>?_);obtain rfl:=hb h;refine qnY ?_;refine zbZ rfl ?_;refine qoL rfl cA ?_;apply qpH;apply qpA;exact qpP (ds:=[_]) (by assumption) rfl zaX;refine qwI ?_;refine qnY ?_;refine zbZ rfl ?_;refine zcr rfl ?_;refine qxk rfl ?_;refine qoL rfl cA ?_;refine zcr rfl ?_;refine qut rfl rfl rfl (by assumption) (fun b=>?_);refine qoL rfl cA ?_;apply qpH;apply qpA;refine t_fr 0 rfl rfl pkz lnM ?_;exact qpP (ds:=[_]) (by assumption) rfl zaX):G:=h
theorem qm2{α:Type}{by_:Nat}{l r:List α}(h:appO by_ [] l=some r):l.length*by_≤140737488355328∧r=l:=by
 obtain⟨a,e,b⟩:=qlh h;simp only[ji,jc]at a;exact⟨a,by simpa using b⟩
def clO{α:Type}(b:Nat)(l:List α):Option (List α):=appO b [] l
section
variable{P:Program}{f:FuncId}{fn:Func}{α ν:Type}{code:Code}
theorem kC{c:Option α}{ds:List D}{a:α→D}(T:Tb)(e:P.funcs[f]? =some fn)(hb:fn.body=some code)(h:∀r,c=some r→∀K,(K.F0=fun b=>b∈yl [])→P.funcs[f]? =some fn→zh T Md.top P f fn K (fun d _=>d=a r) [.code code] (yA 0 ds) []):Cb P f c ds a:=⟨fun r hr=>qdg T e hb (h r hr)⟩
theorem kO{c:Option α}{ds:ν→List D}{s:ν→St}{R:ν→α→D→St→Prop}(T:ν→Tb)(a:P.funcs[f]? =some fn)(hb:fn.body=some code)(h:∀nm r,c=some r→∀K,(K.F0=fun b=>b∈yl (s nm))→P.funcs[f]? =some fn→zh (T nm) Md.top P f fn K (RL (R nm r)) [.code code] (yA 0 (ds nm)) (s nm)):Co P f c (fun nm=>⟨ds nm,s nm,R nm⟩):=⟨fun nm r hr=>qdR (T nm) a hb (h nm r hr)⟩
theorem kX{c:Option (Int⊕α)}{ds:List D}{e:α→D}{F:Int→D}(T:Tb)(g:P.funcs[f]? =some fn)(hb:fn.body=some code)(h:∀r,c=some r→∀K,(K.F0=fun b=>b∈yl [])→(∀d,(∃k,r= .inl k∧d=F k)→K.X d [])→P.funcs[f]? =some fn→zh T Md.top P f fn K (fun d _=>∃a,r= .inr a∧d=e a) [.code code] (yA 0 ds) []):Cx P f c ds e F:=⟨fun r hr=>qyQ T g hb (h r hr)⟩
theorem kP{c:Option (Int⊕α)}{ds:ν→List D}{s:ν→St}{R:ν→α→D→St→Prop}{F:ν→Int→D}(T:ν→Tb)(e:P.funcs[f]? =some fn)(hb:fn.body=some code)(h:∀nm r,c=some r→∀K,(K.F0=fun b=>b∈yl (s nm))→(∀d,(∃k,r= .inl k∧d=F nm k)→K.X d [])→P.funcs[f]? =some fn→zh (T nm) Md.top P f fn K (RL fun d t=>∃a,r= .inr a∧R nm a d t) [.code code] (yA 0 (ds nm)) (s nm)):Cox P f c (fun nm=>⟨ds nm,s nm,R nm,F nm⟩):=⟨fun nm r hr=>qgO (T nm) e hb (h nm r hr)⟩
end
theorem wS{G:Prop}(h:G:=by intro r hr K hK hF;exact wk):G:=h
theorem wO{G:Prop}(h:G:=by intro nm r hr K hK hF;exact wk):G:=h
theorem wX{G:Prop}(h:G:=by intro r hr K hK hX hF;exact wk):G:=h
theorem wP{G:Prop}(h:G:=by intro nm r hr K hK hX hF;exact wk):G:=h
section
variable{p:Addr→Prop}{w:World}
theorem zaL{d:D}{a:List Value}(h:zB p w [d] a):∃v,a=[v]∧Rep p w d v:=by
 simp only[zB]at h;obtain⟨v,_,rfl,b,rfl⟩:=h;exact⟨v,rfl,b⟩
theorem repl2{d e:D}{a:List Value}(h:zB p w [d,e] a):∃v u,a=[v,u]∧Rep p w d v∧Rep p w e u:=by
 simp only[zB]at h;obtain⟨v,_,rfl,b,u,_,rfl,g,rfl⟩:=h;exact⟨v,u,rfl,b,g⟩
end
theorem zac{P:Program}{f:FuncId}{d:D}{b:Bool}(h:∀(p:Addr→Prop)(w:World)(v:Value),Rep p w d v→Calls P f #[v] w (Ret w (Is (.bool b)))):zf P f [d] (.bool b):=
 qjw (v:=.bool b) (fun p w=>by simp only[Rep]) fun p w g _ a=>by
  obtain⟨v,rfl,e⟩:=zaL a;exact h p w v e
theorem zaU{P:Program}{f:FuncId}{d e:D}{b:Bool}(h:∀(p:Addr→Prop)(w:World)(v u:Value),Rep p w d v→Rep p w e u→Calls P f #[v,u] w (Ret w (Is (.bool b)))):zf P f [d,e] (.bool b):=
 qjw (v:=.bool b) (fun p w=>by simp only[Rep]) fun p w n _ a=>by
  obtain⟨v,u,rfl,g,j⟩:=repl2 a;exact h p w v u g j
theorem zcL{P:Program}{f:FuncId}{d:D}{n:Int}(hn:IntKind.i64.wrap n=n)(h:∀(p:Addr→Prop)(w:World)(v:Value),Rep p w d v→Calls P f #[v] w (Ret w (Is (.int .i64 n)))):zf P f [d] (.int .i64 n):=
 qjw (v:=.int .i64 n) (fun p w=>by simp only[Rep];exact⟨trivial,hn⟩) fun p w e _ a=>by
  obtain⟨v,rfl,b⟩:=zaL a;exact h p w v b
theorem qpx(n:Nat)(a:n≤1000000000)(t:T)(hn:wt t≤n):zf prog 51 [zg t] (.bool (zT t)):=zac fun _ w v h=>qvA n a t v w hn (qoI h)
theorem qtw(n:Nat)(a:n≤1000000000)(t:T)(hn:wt t≤n):zf prog 152 [zg t] (.bool (zT t)):=zac fun _ w v h=>qmp n a t v w hn (qoI h)
theorem qrx(n:Nat)(a:n≤1000000000)(t u:T)(hn:wt t≤n):zf prog 326 [zg t,zg u] (.bool (zaY t u)):=zaU fun _ w v x h k=>qxW n a t u v x w hn (qoI h) (qoI k)
theorem quP(n:Nat)(a:n≤1000000000)(t u:T)(hn:wt t≤n):zf prog 140 [zg t,zg u] (.bool (zaY t u)):=zaU fun _ w v x h k=>qto n a t u v x w hn (qoI h) (qoI k)
theorem qlN(n:Nat)(b:n≤1000000000)(a:At)(hn:wtL a.ts≤n):zf prog 125 [zK a] (.bool (zn a)):=zac fun _ w v h=>qkS n b a v w hn (qu4 h)
theorem qnJ(n:Nat)(b:n≤1000000000)(a:At)(hn:wtL a.ts≤n):zf prog 149 [zK a] (.bool (zn a)):=zac fun _ w v h=>qjc n b a v w hn (qu4 h)
theorem qmf(n:Nat)(b:n≤1000000000)(a:Gl)(hn:wtL a.ts≤n):zf prog 172 [zG a] (.bool (zu a)):=zac fun _ w v h=>qqk n b a v w hn (qr5 h)
theorem qnk(n:Nat)(b:n≤1000000000)(a:Gl)(hn:wtL a.ts≤n):zf prog 91 [zG a] (.bool (zu a)):=zac fun _ w v h=>qmB n b a v w hn (qr5 h)
theorem qox(n:Nat)(e:n≤1000000000)(a b:At)(hn:wtL a.ts≤n):zf prog 139 [zK a,zK b] (.bool (zbk a b==0)):=zaU fun _ w v x h k=>qoq n e a b v x w hn (qu4 h) (qu4 k)
theorem qmO(n:Nat)(e:n≤1000000000)(a b:Gl)(hn:wtL a.ts≤n):zf prog 305 [zG a,zG b] (.bool (yn a b)):=zaU fun _ w v x h k=>qrf n e a b v x w hn (qr5 h) (qr5 k)
theorem qoF(n:Nat)(e:n≤1000000000)(a b:Gl)(hn:wtL a.ts≤n):zf prog 138 [zG a,zG b] (.bool (yn a b)):=zaU fun _ w v x h k=>qnu n e a b v x w hn (qr5 h) (qr5 k)
theorem qqt(s:ByteArray):zf prog 163 [.str s] (.bool (zR s)):=zac fun _ w v h=>by
 simp only[Rep]at h;rw[h.1];exact qqN s w
theorem qsz(s:ByteArray)(hs:s.size≤9223372036854775807):zf prog 79 [.str s] (.bool (zR s)):=zac fun _ w v h=>by
 simp only[Rep]at h;rw[h.1];have:=qkq s (Lib.hid hs) w;refine this.mono ?_;rintro e w' ⟨rfl,rfl⟩;exact Ret.mk rfl (Ext.rfl' _)
theorem qvq(n:Nat)(a:n≤1000000000)(t:T)(hn:wt t≤n):zf prog 77 [zg t] (.int .i64 (z8 t:Nat)):=zcL (wrap64 (by have:=qqJ t;omega)) fun _ w v h=>qiv n t v w hn a (qoI h)
theorem qoO(n:Nat)(a:n≤1000000000)(t:T)(hn:wt t≤n):zf prog 325 [zg t] (.bool (zaf t)):=zac fun _ w v h=>qvs n a t v w hn (qoI h)
theorem qmw(s:ByteArray):zf prog 207 [.str s] (.bool (zaR s)):=zac fun _ w v h=>by
 simp only[Rep]at h;rw[h.1];refine(qmr s w).mono ?_;rintro e w' ⟨rfl,rfl⟩;exact Ret.mk rfl (Ext.rfl' _)
abbrev encI(l:List Int):D:=.lst (l.map (D.int .i64))
def RowI(base:Nat)(l:List Int)(v:Value)(w:World):Prop:=zbE base 3 1 l.length (l.map (Value.int .i64)) v w
theorem qmZ{w:World}{base a:Nat}{e:TypeId}{size n:Nat}{v:Value}{xs:List Value}(h:w.ownsRow base e size v n xs)(hb:a≤base):w.ownsRow a e size v n xs:=by
 refine⟨h.1,?_⟩;rcases h.2 with b|⟨g,cap,cur,j,r,q⟩
 exact .inl b;exact .inr ⟨g,cap,cur,j,by omega,q⟩
theorem qmh(d:Nat)(hd:d≤1000000000)(ts:List T)(sv:Value)(w:World)(g:Nat)(a:w.heap.size=g)(hn:wtL ts≤d)(hs:SlT w ts sv):
 Calls prog 232 #[.func (.func 275) #[] #[.pointer (some ⟨g,0,none⟩)]] (w.alloc (.cells #[sv] 62)) (Ret w (RowI w.heap.size (yt [] (zy ts)))):=by
 subst a;exact(qyj d hd ts sv w.heap.size _ hn (Boxed.new w _ _).cell (hs.ext ((Ext.rfl' w).al _))).mono fun _ _⟨v,b,⟨A,c,e,h⟩,j⟩=>⟨v,b,⟨A,c,e,qmZ h og⟩,((Ext.rfl' w).al _).tr j⟩
theorem qxs(d:Nat)(hd:d≤1000000000)(t:T)(v:Value)(w:World)(hn:wt t≤d)(a:VT w t v):Calls prog 165 #[v] w (Ret w (RowI w.heap.size (yt [] (zX t)))):=by
 have b:=zH a;obtain⟨sl,rfl,hs,-⟩:=a.open_;obtain⟨A,c,xs,rfl,-⟩:=hs;clear a
 go_enter func165,Tryz.ntmps165
 go_wp2_with fail
 have g:=qrl (VT.ext (za b) ((Ext.rfl' w).al (.cells #[.int .i64 t.k,.int .i64 t.i,.string t.s,.slice A t.ar.length c] 77))) 77 (w.heap.size+1) og;refine(qm0 _ _ _ 1 1 rfl).mono ?_;rintro e w1 ⟨rfl,rfl⟩
 go_wp2_with fail
 refine(qmh d hd [t] _ _ _ og (by simpa[wtL]using hn) g).mono ?_;rintro e n ⟨v,rfl,hr,he⟩;have he:=zH he;rw[qpC]at hr;obtain⟨h,j,rfl,hr⟩:=hr;have hr:=zH (qmZ hr (show w.heap.size≤_ by simp;omega))
 go_wp2
 go_ret
 exact Ret.mk ⟨h,j,rfl,za hr⟩ ((((Ext.rfl' w).al _).al _).tr (za he))
theorem qrA(d:Nat)(hd:d≤1000000000)(a:At)(v:Value)(w:World)(hn:wtL a.ts≤d)(g:VA w a v):Calls prog 178 #[v] w (Ret w (RowI w.heap.size (yt [] (zy a.ts)))):=by
 obtain⟨sl,rfl,hs,-⟩:=g.open_;have b:=zH hs;obtain⟨A,c,xs,rfl,-⟩:=hs;clear g
 go_enter func178,Tryz.ntmps178
 go_wp2_with fail
 refine(qm0 _ _ A a.ts.length c rfl).mono ?_;rintro e w1 ⟨rfl,rfl⟩
 go_wp2_with fail
 refine(qmh d hd a.ts _ _ _ og hn (SlT.ext (za b) ((Ext.rfl' w).al _))).mono ?_;rintro e n ⟨v,rfl,hr,he⟩;have he:=zH he;obtain⟨h,j,rfl,hr⟩:=hr;have hr:=zH (qmZ hr (show w.heap.size≤_ by simp))
 go_wp2
 go_ret
 exact Ret.mk ⟨h,j,rfl,za hr⟩ (((Ext.rfl' w).al _).tr (za he))
theorem qrb(d:Nat)(hd:d≤1000000000)(g:Gl)(v:Value)(w:World)(hn:wtL g.ts≤d)(b:VG w g v):Calls prog 174 #[v] w (Ret w (RowI w.heap.size (yt [] (zy g.ts)))):=by
 obtain⟨sl,rfl,hs,-⟩:=b.open_;have a:=zH hs;obtain⟨A,c,xs,rfl,-⟩:=hs;clear b
 go_enter func174,Tryz.ntmps174
 go_wp2_with fail
 refine(qm0 _ _ A g.ts.length c rfl).mono ?_;rintro e w1 ⟨rfl,rfl⟩
 go_wp2_with fail
 refine(qmh d hd g.ts _ _ _ og hn (SlT.ext (za a) ((Ext.rfl' w).al _))).mono ?_;rintro e n ⟨v,rfl,hr,he⟩;have he:=zH he;obtain⟨h,j,rfl,hr⟩:=hr;have hr:=zH (qmZ hr (show w.heap.size≤_ by simp))
 go_wp2
 go_ret
 exact Ret.mk ⟨h,j,rfl,za hr⟩ (((Ext.rfl' w).al _).tr (za he))
theorem qjF{P:Program}{f:FuncId}{ds:List D}{l:List Int}(h:∀(p:Addr→Prop)(w:World)(F:List Value),zB p w ds F→(∀x∈l,I64 x)∧Calls P f F.toArray w (Ret w (RowI w.heap.size l))):zf P f ds (encI l):=fun w p F hi N=>by
 obtain⟨O,S⟩:=h p w F N;refine S.mono fun e w' hr=>?_;obtain⟨v,rfl,⟨A,c,rfl,G⟩,he⟩:=hr;have z:∀a,p a→w'.cell? a=w.cell? a:=fun a n=>by
  obtain⟨u,hu⟩:=hi.pub a n;exact(he.cellOf hu).trans hu.symm
 have B:∀(q:Addr→Prop)(m:List Int),(∀x∈m,I64 x)→zj q w' (m.map (D.int .i64)) (m.map (Value.int .i64)):=fun q m=>by
  induction m with
  |nil=>exact fun _=>zj.nil _ _
  |cons x m U=>
   intro I;have:=I x (je ..);have r:Rep q w' (.int .i64 x) (.int .i64 x):=by
    simp only[Rep];exact⟨trivial,wrap64 (by unfold I64 at this;omega)⟩
   simpa[Value.cells]using zj.cons r (U fun y hy=>I y (jp _ hy))
 have C:∀u∈l.map (Value.int .i64),u.oneCell'=true:=fun u hu=>by
  obtain⟨x,_,rfl⟩:=jt.1 hu;rfl
 -- J is given out: V row
 refine .inl ⟨_,encI l,[],fun a=>p a∨(w.heap.size≤a.block∧a.spot=none∧∃u,w'.cell? a=some u),rfl,rfl,?_,?_⟩;simp only[Rep,jh];have hlen:=G.1;rcases G.2 with⟨r,L⟩|⟨g,cap,cur,r,L,W,Y,Z,h6,h7⟩
 injection r with r M H
 subst r H;have:l=[]:=jG M;subst this;exact⟨none,0,[],rfl,by simp,by omega,.inl rfl,zj.nil _ _,by simp⟩;injection r with r M H
 subst r H;refine⟨_,c,l.map (Value.int .i64),rfl,Y,by unfold maxLen at Z;omega,.inr ⟨g,0,rfl,fun j u hu=>?_⟩,B _ l O,C⟩;have E:w'.cell? ⟨g,0+j,none⟩=some u:=by
  rw[jc,cell_of_row _ _ _ _ _ _ W];rw[←h7,jZ]at hu;split at hu
  simpa using hu;cases hu
 exact⟨.inr ⟨L,rfl,u,E⟩,E⟩;exact{ok:=fun o G=>(by cases G),nd:=vL,mine:=fun b hb=>(by cases hb),pub:=fun a n=>(by
  rcases n with n|⟨_,_,u,hu⟩
  obtain⟨u,hu⟩:=hi.pub a n;exact⟨u,he.cellOf hu⟩;exact⟨u,hu⟩),gr:=fun a n=>⟨.inl n,z a n⟩,neu:=fun a n=>n.elim .inl fun h=>.inr (.inl h.1),os:=he.os,tape:=he.tape,output:=he.output,size:=he.size,block:=fun b hb _=>he.block b hb}
theorem qws{w:World}{t:T}{v:Value}(h:VT w t v):∀x∈yt [] (zX t),I64 x:=fun x a=>qwO t v h x (by simpa using qfY.1 a)
theorem qrV{w:World}{l:List T}{v:Value}(h:SlT w l v):∀x∈yt [] (zy l),I64 x:=fun x a=>by
 obtain⟨A,c,xs,_,_,_,_,b⟩:=h;exact qqd l xs b x (by simpa using qfY.1 a)
theorem qrp(n:Nat)(b:n≤1000000000)(t:T)(hn:wt t≤n):zf prog 165 [zg t] (encI (yt [] (zX t))):=qjF fun p w e h=>by
 obtain⟨v,rfl,a⟩:=zaL h;exact⟨qws (qoI a),qxs n b t v w hn (qoI a)⟩
theorem qmz(n:Nat)(e:n≤1000000000)(a:At)(hn:wtL a.ts≤n):zf prog 178 [zK a] (encI (yt [] (zy a.ts))):=qjF fun p w g h=>by
 obtain⟨v,rfl,b⟩:=zaL h;obtain⟨sl,_,hs,_⟩:=(qu4 b).open_;exact⟨qrV hs,qrA n e a v w hn (qu4 b)⟩
theorem qmP(n:Nat)(b:n≤1000000000)(g:Gl)(hn:wtL g.ts≤n):zf prog 174 [zG g] (encI (yt [] (zy g.ts))):=qjF fun p w e h=>by
 obtain⟨v,rfl,a⟩:=zaL h;obtain⟨sl,_,hs,_⟩:=(qr5 a).open_;exact⟨qrV hs,qrb n b g v w hn (qr5 a)⟩
theorem ifS{α:Type}{c:Prop}[Decidable c]{a b:α}(h:(if c then some a else none)=some b):c∧a=b:=by
 split at h
 exact⟨by assumption,Option.some.inj h⟩;cases h
def qeM(t:T):Option (Bool):=if wt t≤1000000000 then some (zT t)else none
theorem qtv(t:T)(h:wt t≤1000000000):qeM t=some (zT t):=if_pos h
theorem qqp(t:T)(res:Bool)(h:qeM t=some res):zf prog 51 [zg t] (.bool res):=by
 obtain⟨a,rfl⟩:=ifS h;exact qpx 1000000000 (jf _) t a
theorem qie(t:T)(res:Bool)(h:qeM t=some res):zf prog 152 [zg t] (.bool res):=by
 obtain⟨a,rfl⟩:=ifS h;exact qtw 1000000000 (jf _) t a
def qgQ(t:T)(u:T):Option (Bool):=if wt t≤1000000000 then some (zaY t u)else none
theorem qsb(t:T)(u:T)(res:Bool)(h:qgQ t u=some res):zf prog 326 [zg t,zg u] (.bool res):=by
 obtain⟨a,rfl⟩:=ifS h;exact qrx 1000000000 (jf _) t u a
theorem qiz(t:T)(u:T)(res:Bool)(h:qgQ t u=some res):zf prog 140 [zg t,zg u] (.bool res):=by
 obtain⟨a,rfl⟩:=ifS h;exact quP 1000000000 (jf _) t u a
def qdY(a:At):Option (Bool):=if wtL a.ts≤1000000000 then some (zn a)else none
theorem qmj(a:At)(res:Bool)(h:qdY a=some res):zf prog 125 [zK a] (.bool res):=by
 obtain⟨b,rfl⟩:=ifS h;exact qlN 1000000000 (jf _) a b
theorem qgC(a:At)(res:Bool)(h:qdY a=some res):zf prog 149 [zK a] (.bool res):=by
 obtain⟨b,rfl⟩:=ifS h;exact qnJ 1000000000 (jf _) a b
def qef(a:Gl):Option (Bool):=if wtL a.ts≤1000000000 then some (zu a)else none
theorem qmd(a:Gl)(res:Bool)(h:qef a=some res):zf prog 172 [zG a] (.bool res):=by
 obtain⟨b,rfl⟩:=ifS h;exact qmf 1000000000 (jf _) a b
theorem qgF(a:Gl)(res:Bool)(h:qef a=some res):zf prog 91 [zG a] (.bool res):=by
 obtain⟨b,rfl⟩:=ifS h;exact qnk 1000000000 (jf _) a b
def ql6(a:At)(b:At):Option (Bool):=if wtL a.ts≤1000000000 then some ((zbk a b==0))else none
theorem qgX(a:At)(b:At)(res:Bool)(h:ql6 a b=some res):zf prog 139 [zK a,zK b] (.bool res):=by
 obtain⟨e,rfl⟩:=ifS h;exact qox 1000000000 (jf _) a b e
def qiP(a:Gl)(b:Gl):Option (Bool):=if wtL a.ts≤1000000000 then some (yn a b)else none
theorem qmA(a:Gl)(b:Gl)(res:Bool)(h:qiP a b=some res):zf prog 305 [zG a,zG b] (.bool res):=by
 obtain⟨e,rfl⟩:=ifS h;exact qmO 1000000000 (jf _) a b e
theorem qgU(a:Gl)(b:Gl)(res:Bool)(h:qiP a b=some res):zf prog 138 [zG a,zG b] (.bool res):=by
 obtain⟨e,rfl⟩:=ifS h;exact qoF 1000000000 (jf _) a b e
def qm3(s:ByteArray):Option (Bool):=if True then some (zR s)else none
theorem qpI(s:ByteArray)(res:Bool)(h:qm3 s=some res):zf prog 163 [.str s] (.bool res):=by
 obtain⟨a,rfl⟩:=ifS h;exact qqt s
def qlJ(s:ByteArray):Option (Bool):=if s.size≤9223372036854775807 then some (zR s)else none
theorem qhV(s:ByteArray)(res:Bool)(h:qlJ s=some res):zf prog 79 [.str s] (.bool res):=by
 obtain⟨a,rfl⟩:=ifS h;exact qsz s a
def qjG(a:At):Option (List Int):=if wtL a.ts≤1000000000 then some (yt [] (zy a.ts))else none
theorem qje(a:At)(res:List Int)(h:qjG a=some res):zf prog 178 [zK a] (encI res):=by
 obtain⟨b,rfl⟩:=ifS h;exact qmz 1000000000 (jf _) a b
def qpy(g:Gl):Option (List Int):=if wtL g.ts≤1000000000 then some (yt [] (zy g.ts))else none
theorem qmv(g:Gl)(res:List Int)(h:qpy g=some res):zf prog 174 [zG g] (encI res):=by
 obtain⟨a,rfl⟩:=ifS h;exact qmP 1000000000 (jf _) g a
def qqe(t:T):Option (List Int):=if wt t≤1000000000 then some (yt [] (zX t))else none
theorem qrz(t:T)(res:List Int)(h:qqe t=some res):zf prog 165 [zg t] (encI res):=by
 obtain⟨a,rfl⟩:=ifS h;exact qrp 1000000000 (jf _) t a
def qjD(t:T):Option (Bool):=if wt t≤1000000000 then some (zaf t)else none
theorem qoP(t:T)(res:Bool)(h:qjD t=some res):zf prog 325 [zg t] (.bool res):=by
 obtain⟨a,rfl⟩:=ifS h;exact qoO 1000000000 (jf _) t a
def qwp(s:ByteArray):Option (Bool):=if True then some (zaR s)else none
theorem qmF(s:ByteArray)(res:Bool)(h:qwp s=some res):zf prog 207 [.str s] (.bool res):=by
 obtain⟨a,rfl⟩:=ifS h;exact qmw s
def qsM(t:T):Option (Int):=if wt t≤1000000000 then some (((z8 t:Nat):Int))else none
theorem qiZ(t:T)(res:Int)(h:qsM t=some res):zf prog 77 [zg t] (.int .i64 res):=by
 obtain⟨a,rfl⟩:=ifS h;exact qvq 1000000000 (jf _) t a
def toY(l:List UInt8):List Int:=l.map fun x=>(x.toNat:Int)
def ofY(l:List Int):List UInt8:=l.map fun n=>UInt8.ofNat n.toNat
def IsY(l:List Int):Prop:=∀x∈l,0≤x∧x<256
theorem qsQ{l:List Int}(h:IsY l):toY (ofY l)=l:=by
 unfold toY ofY;rw[jR]
 conv=>rhs;rw[←List.map_id l]
 refine List.map_congr_left fun x a=>?_;obtain⟨b,e⟩:=h x a;simp only[Function.comp,UInt8.toNat_ofNat',id];omega
theorem qvL(l:List UInt8):ofY (toY l)=l:=by
 unfold toY ofY;rw[jR]
 conv=>rhs;rw[←List.map_id l]
 refine List.map_congr_left fun x _=>?_;simp[Function.comp]
theorem qpB(l m:List UInt8):toY (l++m)=toY l++toY m:=jJ
theorem qgl(l:List Int):(ofY l).length=l.length:=jh ..
theorem qjs(l:List UInt8):(toY l).length=l.length:=jh ..
theorem qDK{n:Int}(h:IntKind.u8.wrap n=n):0≤n∧n<256:=by
 simp[IntKind.wrap,IntKind.bits,IntKind.signed]at h;omega
theorem qCZ{n:Int}(h:0≤n∧n<256):IntKind.u8.wrap n=n:=by
 simp[IntKind.wrap,IntKind.bits,IntKind.signed];omega
theorem repsY{p:Addr→Prop}{w:World}:∀{l:List Int}{xs:List Value},zj p w (l.map (D.int .u8)) xs→IsY l∧xs=(ofY l).map bv
 |[],xs,h=>by
  simp only[jU,zj]at h;subst h;exact⟨fun x a=>(by cases a),rfl⟩
 |n::l,xs,h=>by
  simp only[jm,zj,Rep]at h;obtain⟨v,rest,rfl,⟨rfl,hn⟩,b⟩:=h;obtain⟨g,rfl⟩:=repsY b;have j:=qDK hn;refine⟨fun x a=>(jx.1 a).elim (fun e=>e▸j) (g x),?_⟩;simp only[ofY,jm,bv,Value.cells];have:((UInt8.ofNat n.toNat).toNat:Int)=n:=by
   simp only[UInt8.toNat_ofNat'];omega
  rw[this];rfl
theorem zcj{p:Addr→Prop}{w:World}{l:List Int}{v:Value}(h:Rep p w (.lst (l.map (D.int .u8))) v):IsY l∧∃A c,v= .slice A (ofY l).length c∧(ofY l).length≤c∧Rd w A ((ofY l).map bv):=by
 simp only[Rep,jh]at h;obtain⟨A,c,xs,rfl,e,_,a,g,_⟩:=h;obtain⟨n,rfl⟩:=repsY g;refine⟨n,A,c,by rw[qgl],by rw[qgl];exact e,?_⟩;rcases a with a|⟨b,o,rfl,a⟩
 exact .inl a;exact .inr ⟨⟨b,o,none⟩,rfl,fun j u hu=>by rw[zan];exact(a j u hu).2⟩
theorem qhE{f:FuncId}{ds:List D}{l:List UInt8}(h:∀(p:Addr→Prop)(w:World)(F:List Value),zB p w ds F→Calls prog f F.toArray w (Ret w (IsB w.heap.size l))):zf prog f ds (.lst ((toY l).map (D.int .u8))):=fun w p F hi L=>by
 have M:=h p w F L;refine M.mono fun e w' hr=>?_;obtain⟨v,rfl,⟨A,c,rfl,G⟩,he⟩:=hr;have z:∀a,p a→w'.cell? a=w.cell? a:=fun a n=>by
  obtain⟨u,hu⟩:=hi.pub a n;exact(he.cellOf hu).trans hu.symm
 have B:∀(q:Addr→Prop)(m:List UInt8),zj q w' ((toY m).map (D.int .u8)) (m.map bv):=fun q m=>by
  induction m with
  |nil=>exact zj.nil _ _
  |cons x m N=>
   have W:=UInt8.toNat_lt x;have r:Rep q w' (.int .u8 (x.toNat:Int)) (.int .u8 (x.toNat:Int)):=by
    simp only[Rep];exact⟨trivial,qCZ oa⟩
   simpa[Value.cells,toY,bv]using zj.cons r N
 have C:∀u∈l.map bv,u.oneCell'=true:=fun u hu=>by
  obtain⟨x,_,rfl⟩:=jt.1 hu;rfl
 refine .inl ⟨_,.lst ((toY l).map (D.int .u8)),[],fun a=>p a∨(w.heap.size≤a.block∧a.spot=none∧∃u,w'.cell? a=some u),rfl,rfl,?_,?_⟩;simp only[Rep,jh,qjs];have hlen:=G.1;rcases G.2 with⟨r,I⟩|⟨g,cap,cur,r,I,O,S,U,Y,V⟩
 injection r with r J H
 subst r H;have:l=[]:=jG J;subst this;exact⟨none,0,[],rfl,by simp,by omega,.inl rfl,zj.nil _ _,by simp⟩;injection r with r J H
 subst r H;refine⟨_,c,l.map bv,rfl,S,by unfold maxLen at U;omega,.inr ⟨g,0,rfl,fun j u hu=>?_⟩,B _ l,C⟩;have E:w'.cell? ⟨g,0+j,none⟩=some u:=by
  rw[jc,cell_of_row _ _ _ _ _ _ O];rw[←V,jZ]at hu;split at hu
  simpa using hu;cases hu
 exact⟨.inr ⟨I,rfl,u,E⟩,E⟩;exact{ok:=fun o G=>(by cases G),nd:=vL,mine:=fun b hb=>(by cases hb),pub:=fun a n=>(by
  rcases n with n|⟨_,_,u,hu⟩
  obtain⟨u,hu⟩:=hi.pub a n;exact⟨u,he.cellOf hu⟩;exact⟨u,hu⟩),gr:=fun a n=>⟨.inl n,z a n⟩,neu:=fun a n=>n.elim .inl fun h=>.inr (.inl h.1),os:=he.os,tape:=he.tape,output:=he.output,size:=he.size,block:=fun b hb _=>he.block b hb}
theorem qlF{f:FuncId}{ds:List D}{d:D}(h:∀(p:Addr→Prop)(w:World)(a:List Value),zB p w ds a→∃v,Rep p w d v∧Calls prog f a.toArray w (Same w v)):zf prog f ds d:=fun w p a hi b=>by
 obtain⟨v,hr,g⟩:=h p w a b;refine g.mono fun e w' he=>?_;obtain⟨rfl,rfl⟩:=he;exact .inl ⟨v,d,[],p,rfl,rfl,hr,hi⟩
def z6(n:Int):List Int:=toY ((enc (zig n)).take 10)
theorem qlM{n:Int}(a: -9223372036854775808≤n)(b:n<9223372036854775808):z6 n=toY (enc (zig n)):=by
 unfold z6;rw[vg (qng (qt4 a b))]
def qgR(b:List Int)(n:Int):Option (List Int):=if b.length≤1000000000 then some (b++z6 n)else none
def qgI(b:List Int)(s:ByteArray):Option (List Int):=if b.length≤1000000000∧s.size≤1000000000 then some (b++(z6 s.size++toY s.data.toList))else none
def qgH(b:List Int)(x:Bool):Option (List Int):=if b.length≤1000000000 then some (b++[bif x then 1 else 0])else none
def qqY(b:List Int)(a lo hi:Int):Option (Int×Int×Int):=if b.length≤1000000000 then some (yh (ofY b) a lo hi)else none
def qny(b:List Int)(a m:Int):Option (ByteArray×Int×Int):=if b.length≤1000000000 then some (⟨(yu (ofY b) a m).1.toArray⟩,(yu (ofY b) a m).2.1,(yu (ofY b) a m).2.2)else none
theorem zaJ{p:Addr→Prop}{w:World}{d e:D}{a:List Value}(h:zB p w [d,e] a):∃u v,a=[u,v]∧Rep p w d u∧Rep p w e v:=by
 simp only[zB]at h;obtain⟨u,_,rfl,b,v,_,rfl,g,rfl⟩:=h;exact⟨u,v,rfl,b,g⟩
section
variable(f:FuncId)(hf:∀(A:Option Addr)(c:Nat)(bs:List UInt8)(k:Int)(w:World),Rd w A (bs.map bv)→bs.length≤1000000000→-9223372036854775808≤k→k<9223372036854775808→Calls prog f #[.slice A bs.length c,.int .i64 k] w (Ret w (IsB w.heap.size (bs++enc (zig k)))))
include hf
theorem qsh(b:List Int)(n:Int)(res:List Int)(h:qgR b n=some res):zf prog f [.lst (b.map (D.int .u8)),.int .i64 n] (.lst (res.map (D.int .u8))):=by
 obtain⟨x,rfl⟩:=ifS h;intro w p r hi g;obtain⟨u,v,_,hu,hn⟩:=zaJ g;simp only[Rep]at hn;obtain⟨j,q⟩:=qfu hn.2;have e:b++z6 n=toY (ofY b++enc (zig n)):=by rw[qpB,qsQ (zcj hu).1,qlM j q]
 rw[e];refine qhE (fun p w r g=>?_) w p r hi g;obtain⟨u,v,rfl,hu,a⟩:=zaJ g;obtain⟨_,A,c,rfl,_,hr⟩:=zcj hu;simp only[Rep]at a;obtain⟨rfl,hn⟩:=a;obtain⟨j,q⟩:=qfu hn;exact hf A c (ofY b) n w hr (by rw[qgl];exact x) j q
end
section
variable(f:FuncId)(hf:∀(A:Option Addr)(c:Nat)(bs:List UInt8)(s:ByteArray)(w:World),Rd w A (bs.map bv)→bs.length≤1000000000→s.size≤1000000000→Calls prog f #[.slice A bs.length c,.string s] w (Ret w (IsB w.heap.size (bs++(enc (zig s.size)++s.data.toList)))))
include hf
theorem qqW(b:List Int)(s:ByteArray)(res:List Int)(h:qgI b s=some res):zf prog f [.lst (b.map (D.int .u8)),.str s] (.lst (res.map (D.int .u8))):=by
 obtain⟨⟨n,q⟩,rfl⟩:=ifS h;intro w p j hi g;obtain⟨u,v,_,hu,_⟩:=zaJ g;have e:b++(z6 s.size++toY s.data.toList)=toY (ofY b++(enc (zig s.size)++s.data.toList)):=by rw[qpB,qpB,qsQ (zcj hu).1,qlM oa oa]
 rw[e];refine qhE (fun p w j g=>?_) w p j hi g;obtain⟨u,v,rfl,hu,a⟩:=zaJ g;obtain⟨_,A,c,rfl,_,hr⟩:=zcj hu;simp only[Rep]at a;obtain⟨rfl,hn⟩:=a;exact hf A c (ofY b) s w hr (by rw[qgl];exact n) q
end
section
variable(f:FuncId)(hf:∀(A:Option Addr)(c:Nat)(bs:List UInt8)(x:Bool)(w:World),Rd w A (bs.map bv)→bs.length≤1000000000→Calls prog f #[.slice A bs.length c,.bool x] w (Ret w (IsB w.heap.size (bs++[if x then 1 else 0]))))
include hf
theorem qp0(b:List Int)(x:Bool)(res:List Int)(h:qgH b x=some res):zf prog f [.lst (b.map (D.int .u8)),.bool x] (.lst (res.map (D.int .u8))):=by
 obtain⟨n,rfl⟩:=ifS h;intro w p j hi g;obtain⟨u,v,_,hu,_⟩:=zaJ g;have e:b++[bif x then 1 else 0]=toY (ofY b++[if x then 1 else 0]):=by rw[qpB,qsQ (zcj hu).1];cases x<;>rfl
 rw[e];refine qhE (fun p w j g=>?_) w p j hi g;obtain⟨u,v,rfl,hu,a⟩:=zaJ g;obtain⟨_,A,c,rfl,_,hr⟩:=zcj hu;simp only[Rep]at a;subst a;exact hf A c (ofY b) x w hr (by rw[qgl];exact n)
end
theorem qn5(b:List Int)(n:Int)(res:List Int)(h:qgR b n=some res):zf prog 123 [.lst (b.map (D.int .u8)),.int .i64 n] (.lst (res.map (D.int .u8))):=qsh _ qoY b n res h
theorem qmN(b:List Int)(s:ByteArray)(res:List Int)(h:qgI b s=some res):zf prog 135 [.lst (b.map (D.int .u8)),.str s] (.lst (res.map (D.int .u8))):=qqW _ qsB b s res h
theorem qmH(b:List Int)(x:Bool)(res:List Int)(h:qgH b x=some res):zf prog 56 [.lst (b.map (D.int .u8)),.bool x] (.lst (res.map (D.int .u8))):=qp0 _ qtt b x res h
theorem qwh:∀(k:Nat)(l:List UInt8),(zZ k l).2.2≤4
 |k,[]=>jf _
 |k,c::r=>by
  have:=qwh (k+1) r;rw[qjC];split
  decide;split
  split
  decide;exact ju _;split
  exact ju _;exact this
theorem qzI(bs:List UInt8)(a lo hi:Int):0≤(yh bs a lo hi).2.2∧(yh bs a lo hi).2.2≤5:=by
 have:=qwh 0 (bs.drop a.toNat);unfold yh;split
 decide;split
 simp only[];omega;split
 decide;show(0:Int)≤0∧(0:Int)≤5;decide
theorem qup(bs:List UInt8)(hb:bs.length≤1000000000)(a lo hi:Int):(-9223372036854775808≤(yh bs a lo hi).1∧(yh bs a lo hi).1<9223372036854775808)∧0≤(yh bs a lo hi).2.1∧(yh bs a lo hi).2.1≤1000000000:=by
 by_cases h:(yh bs a lo hi).2.2=0
 · have:=qs8 (bs:=bs) (at_:=a) (lo:=lo) (hi:=hi) (n:=(yh bs a lo hi).1) (next:=(yh bs a lo hi).2.1) (by rw[←h])
   omega
 · have:=qyK (bs:=bs) (at_:=a) (lo:=lo) (hi:=hi) (n:=(yh bs a lo hi).1) (next:=(yh bs a lo hi).2.1) rfl h
   omega
theorem qq4(b:List Int)(a lo hi:Int)(res:Int×Int×Int)(h:qqY b a lo hi=some res):zf prog 117 [.lst (b.map (D.int .u8)),.int .i64 a,.int .i64 lo,.int .i64 hi] (.tup [.int .i64 res.1,.int .i64 res.2.1,.int .i64 res.2.2]):=by
 obtain⟨g,rfl⟩:=ifS h;refine qlF fun p w n e=>?_;simp only[zB]at e;obtain⟨u,_,rfl,hu,v,_,rfl,e,x,_,rfl,j,y,_,rfl,hy,rfl⟩:=e;obtain⟨_,A,c,rfl,_,hr⟩:=zcj hu;simp only[Rep]at e j hy;obtain⟨rfl,_⟩:=e;obtain⟨rfl,_⟩:=j;obtain⟨rfl,_⟩:=hy;obtain⟨i1,i2⟩:=qup (ofY b) (by rw[qgl];exact g) a lo hi;have i3:=qzI (ofY b) a lo hi;refine⟨tri (yh (ofY b) a lo hi),?_,qxe A c (ofY b) a lo hi w hr (by rw[qgl];exact g)⟩;simp only[Rep,zB,tri];exact⟨_,rfl,_,_,rfl,⟨rfl,wrap64 i1⟩,_,_,rfl,⟨rfl,wrap64 oa⟩,_,_,rfl,⟨rfl,wrap64 oa⟩,rfl⟩
theorem qqy(b:List Int)(a m:Int)(res:ByteArray×Int×Int)(h:qny b a m=some res):zf prog 132 [.lst (b.map (D.int .u8)),.int .i64 a,.int .i64 m] (.tup [.str res.1,.int .i64 res.2.1,.int .i64 res.2.2]):=by
 obtain⟨j,rfl⟩:=ifS h;refine qlF fun p w z e=>?_;simp only[zB]at e;obtain⟨u,_,rfl,hu,v,_,rfl,e,x,_,rfl,q,rfl⟩:=e;obtain⟨_,A,c,rfl,r,hr⟩:=zcj hu;simp only[Rep]at e q;obtain⟨rfl,_⟩:=e;obtain⟨rfl,_⟩:=q;obtain⟨i1,i2⟩:=qup (ofY b) (by rw[qgl];exact j) a 0 m;have i3:=qzI (ofY b) a 0 m;have hl:(ofY b).length≤1000000000:=by rw[qgl];exact j
 refine⟨triS (yu (ofY b) a m),?_,qye A c (ofY b) a m w hr hl r⟩;have t1:(yu (ofY b) a m).1.length≤1000000000∧(-1≤(yu (ofY b) a m).2.1∧(yu (ofY b) a m).2.1≤2000000000)∧0≤(yu (ofY b) a m).2.2∧(yu (ofY b) a m).2.2≤5:=by
  unfold yu;split
  simp
  · split
    · simp only[ji];omega
    · rename_i g
      split
      · simp
      · have g:(yh (ofY b) a 0 m).2.2=0:=by simpa using g
        have:=qs8 (bs:=ofY b) (at_:=a) (lo:=0) (hi:=m) (n:=(yh (ofY b) a 0 m).1) (next:=(yh (ofY b) a 0 m).2.1) (Prod.ext rfl (Prod.ext rfl g));simp only[jA,j4];omega
 simp only[Rep,zB,triS];refine⟨_,rfl,_,_,rfl,⟨rfl,?_⟩,_,_,rfl,⟨rfl,wrap64 oa⟩,_,_,rfl,⟨rfl,wrap64 oa⟩,rfl⟩;have:(⟨(yu (ofY b) a m).1.toArray⟩:ByteArray).size=(yu (ofY b) a m).1.length:=by
  show(yu (ofY b) a m).1.toArray.size=_;simp
 omega
def zae(r:Int⊕Unit):Int:=match r with
 |.inl c=>c
 |.inr _=>0
theorem qjJ{w:World}{B:Nat}{cs:Array Value}{t:TypeId}(h:w.heap[B]? =some (.cells cs t (0,0)))(j:Nat):w.cell? ⟨B,j,none⟩=cs[j]? :=by
 simp[World.cell?,h]
theorem qg3{w:World}{B:Nat}{cs:Array Value}{t:TypeId}(h:w.heap[B]? =some (.cells cs t (0,0)))(j:Nat):w.frozen? ⟨B,j,none⟩=false:=by
 simp[World.frozen?,h]
theorem qwD{K:Ctx}{p:Addr→Prop}{w:World}(h:Inv K p [] w){b:Nat}(hb:K.w0.heap.size≤b)(j:∀a,p a→a.block≠b)(u:Value):Inv K p [] (w.setCell ⟨b,0,none⟩ u):=by
 have g:∀a,p a→(w.setCell ⟨b,0,none⟩ u).cell? a=w.cell? a:=fun a e=>World.cell?_of_block (heap_setCell_other w _ _ _ (j a e));refine⟨fun o n=>(by cases n),h.nd,h.mine,fun a e=>?_,h.gr.tr fun a e=>⟨e,g a e⟩,h.neu,h.os,h.tape,h.output,by simpa using h.size,fun k q hF=>(heap_setCell_other w ⟨b,0,none⟩ k u (by simp only[ne_eq];omega)).trans (h.block k q hF)⟩;obtain⟨v,r⟩:=h.pub a e;exact⟨v,(g a e).trans r⟩
theorem qw3(b:Nat)(x c:Int)(ty:TypeId)(w:World)(a:w.heap[b]? =some (.cells #[.int .i64 x] ty (0,0))):
 CallsD prog 222 #[.pointer (some ⟨b,0,none⟩)] (.panicking [{v:=.iface 282 (.agg #[.int .i64 c]),recovered:=false}]) w fun e h w'=>
  e= .returned (.tuple #[])∧h= .panicking [{v:=.iface 282 (.agg #[.int .i64 c]),recovered:=true}]∧w'=(w.alloc (.cells #[.int .i64 c] 282)).setCell ⟨b,0,none⟩ (.int .i64 c):=by
 refine callsD_of_wpS func222 rfl fun u cs hu=>?_;apply wpS_seq;apply wpS_region;simp[wpOpsS,go_sem,recoverD,hu,Tryz.ntmps222,Exit.thenS];refine wpS_of_wp ?_;have j:∀(w:World),(Op.equal 20 (.iface 282 (.agg #[.int .i64 c])) .nilIface).run prog w= .ok false w:=fun _=>rfl;have n:∀(w:World),(Instr.typeAssert (.iface 282 (.agg #[.int .i64 c])) 20 282 true).run prog w= .ok (.tuple #[.agg #[.int .i64 c],.bool true]) w:=fun w=>by
  kernel_rfl
 have g:=(Below.heap_alloc w (.cells #[.int .i64 c] 282) b (jL.1 a).1).trans a;have q:=qjJ g 0;have r:=qg3 g 0;clear a g
 go_wp2
 simp[bodyPostS,results,Tryz.results222]
theorem qs7(b:Nat)(w:World):
 CallsD prog 222 #[.pointer (some ⟨b,0,none⟩)] .returning w fun e a w'=>e= .returned (.tuple #[])∧a= .returning∧w'=w:=by
 refine callsD_of_wpS func222 rfl fun g cs hu=>?_;apply wpS_seq;apply wpS_region;simp[wpOpsS,go_sem,recoverD,hu,Tryz.ntmps222,Exit.thenS];refine wpS_of_wp ?_
 go_wp2
 cases g;simp_all [bodyPostS,results,Tryz.results222]
theorem qq8{g:FuncId}{S cs all:List D}{res:Int⊕Unit}(H:S++cs=all)(W:callee prog g)(h:yX prog g all [] (fun d _=>∃r:Unit,res= .inr r∧d= .tup []) (fun d=>∃c,res= .inl c∧d= .ifc 282 (.agg [.int .i64 c]))):
 zf prog 160 [.clo (.func g) S cs] (.int .i64 (zae res)):=fun w p vs hi I=>by
 simp only[zB,Rep]at I;obtain⟨v,rest,rfl,⟨U,V,rfl,Y,Z⟩,rfl⟩:=I;have hmf:∀(fn:Fn)(first cap:Array Value)(w:World),(Instr.makeFunc fn first cap).run prog w= .ok (.func fn first cap) w:=fun _ _ _ _=>rfl
 go_enter_defers func160,Tryz.ntmps160
 go_wp2
 rw[qdn W,Oper.upon_enter];have J:=hi.alloc (.cells #[.int .i64 0] 43);have g1:=qaw hi.pub (.cells #[.int .i64 0] 43);have C:zB p (w.alloc (.cells #[.int .i64 0] 43)) all (U++V):=by
  rw[←H];exact(Y.app Z).grow g1
 refine(h _ p (U++V) (Inv.enter (σ:=[]) (τ:=[]) J) C).mono fun e L hl=>?_;rcases hl with⟨v,d,σ2,q,rfl,⟨r,rfl,rfl⟩,I,j⟩|⟨v,d,σ2,q,rfl,⟨c,rfl,rfl⟩,I,j⟩
 · have hb:=(j.block w.heap.size (by simp[zbI,ctx]) (by simp[zbI,ctx,yl])).trans (heap_alloc_new w _)
   have hc:=qjJ hb 0;have hz:=qg3 hb 0;have E:=(hi.alloc (.cells #[.int .i64 0] 43)).leave (σ:=[]) (j.of (by rfl) (by rfl) (by rfl));have hq:∀a,q a→a.block≠w.heap.size:=fun a M e=>by
    rcases j.neu a M with n|n|n
    · obtain⟨u,hu⟩:=hi.pub a n
      have:=qfs hu;omega
    · simp[zbI,ctx,e]at n
      omega
    · simp[zbI,ctx,yl]at n
   have F:=qwD (Inv.less (σ:=[]) E) (b:=w.heap.size) (by simp[ctx]) hq (.int .i64 0);dsimp only
   go_wp2
   refine leaves_cons (f:=222) (args:=#[.pointer (some ⟨w.heap.size,0,none⟩)]) og (by simp[go_sem]) ?_;refine(qs7 _ _).mono ?_;rintro e u' w3 ⟨rfl,rfl,rfl⟩;have z:=heap_setCell_same L w.heap.size 0 _ _ (.int .i64 0) hb;have B:=qjJ z 0;have G:=qg3 z 0;refine⟨.int .i64 0,?_,?_⟩
   · simp at B
     simp[results,Tryz.results160,go_sem,B,G]
   · exact .inl ⟨_,_,_,_,rfl,rfl,by simp[Rep,zae];rfl,F⟩
 · have hb:=(j.block w.heap.size (by simp[zbI,ctx]) (by simp[zbI,ctx,yl])).trans (heap_alloc_new w _)
   have hc:=qjJ hb 0;have hz:=qg3 hb 0;have E:=(hi.alloc (.cells #[.int .i64 0] 43)).leave (σ:=[]) (j.of (by rfl) (by rfl) (by rfl));have hq:∀a,q a→a.block≠w.heap.size:=fun a M e=>by
    rcases j.neu a M with n|n|n
    · obtain⟨u,hu⟩:=hi.pub a n
      have:=qfs hu;omega
    · simp[zbI,ctx,e]at n
      omega
    · simp[zbI,ctx,yl]at n
   obtain⟨v',rfl,xs,rfl,⟨x,r,rfl,⟨rfl,N⟩,rfl⟩,_⟩:=I;dsimp only
   go_wp2
   refine leaves_cons (f:=222) (args:=#[.pointer (some ⟨w.heap.size,0,none⟩)]) og (by simp[go_sem]) ?_;refine(qw3 w.heap.size 0 c _ L hb).mono ?_;rintro e u' w3 ⟨rfl,rfl,rfl⟩;have F:=qwD ((Inv.less (σ:=[]) E).alloc (.cells #[.int .i64 c] 282)) (b:=w.heap.size) (by simp[ctx]) hq (.int .i64 c);have O:=(Below.heap_alloc L (.cells #[.int .i64 c] 282) w.heap.size (jL.1 hb).1).trans hb;have z:=heap_setCell_same _ w.heap.size 0 _ _ (.int .i64 c) O;have B:=qjJ z 0;have G:=qg3 z 0;refine⟨.int .i64 c,?_,?_⟩
   · simp at B
     simp[results,Tryz.results160,go_sem,B,G]
   · exact .inl ⟨_,_,_,_,rfl,rfl,by simp[Rep,zae,N],F⟩
noncomputable section
structure S_api_Decl where
 fy:ByteArray
 fH:Int
def qH(x:S_api_Decl):D:=.agg [.str x.fy,.int .i64 x.fH]
theorem qqL(x:S_api_Decl):sz (qH x)=2:=by first|rfl|(simp[qH,sz,szs,qfc,zw,zt])
structure qs where
 fy:ByteArray
 fm:(List At)
 ft:(List At)
 fu:(List Gl)
 fx:(List Gl)
 fF:Int
def qo(x:qs):D:=.agg [.str x.fy,.lst (x.fm.map zK),.lst (x.ft.map zK),.lst (x.fu.map zG),.lst (x.fx.map zG),.int .i64 x.fF]
theorem qfB(x:qs):sz (qo x)=6:=by first|rfl|(simp[qo,sz,szs,qfc,zw,zt])
structure qf where
 fD:(List S_api_Decl)
 fe:(List qs)
def qj(x:qf):D:=.agg [.lst (x.fD.map qH),.lst (x.fe.map qo)]
theorem qbL(x:qf):sz (qj x)=2:=by first|rfl|(simp[qj,sz,szs,qfc,zw,zt])
structure qD where
 fp:Int
 fM:Int
 fN:Bool
def qE(x:qD):D:=.agg [.int .i64 x.fp,.int .i64 x.fM,.bool x.fN]
theorem qd1(x:qD):sz (qE x)=3:=by first|rfl|(simp[qE,sz,szs,qfc,zw,zt])
structure qB where
 fi:Gl
 fj:Int
 fA:Int
def qG(x:qB):D:=.agg [zG x.fi,.int .i64 x.fj,.int .i64 x.fA]
theorem qeI(x:qB):sz (qG x)=5:=by first|rfl|(simp[qG,sz,szs,qfc,zw,zt])
structure qy where
 f0_pattern:T
 f1_t:T
def qC(x:qy):D:=.agg [zg x.f0_pattern,zg x.f1_t]
theorem qg6(x:qy):sz (qC x)=8:=by first|rfl|(simp[qC,sz,szs,qfc,zw,zt])
instance(x:qy):SzI (qC x) 8:=⟨qg6 x⟩
structure qu where
 fp:Int
 ff:(List Int)
def qp(x:qu):D:=.agg [.int .i64 x.fp,.lst (x.ff.map (D.int .i64))]
theorem qar(x:qu):sz (qp x)=2:=by first|rfl|(simp[qp,sz,szs,qfc,zw,zt])
structure qc where
 f0_b:(List Int)
 f1_at:Int
def qg(x:qc):D:=.agg [.lst (x.f0_b.map (D.int .u8)),.int .i64 x.f1_at]
theorem qjI:yv prog 112 (.nilp):=.val (.pointer none) rfl ob rfl
instance:ZvI prog 112 (.nilp):=⟨qjI⟩
structure qd where
 f0_b:(List Int)
 f1_bad:Bool
def qi(x:qd):D:=.agg [.lst (x.f0_b.map (D.int .u8)),.bool x.f1_bad]
structure qe where
 fk:(List qB)
 fh:(List (Int×At))
 fo:(List (Int×T))
 fC:(List qu)
 fl:Int
 fg:Int
 fE:Bool
def qh(x:qe):D:=.agg [.lst (x.fk.map qG),.lst (x.fh.map zt),.lst (x.fo.map zw),.lst (x.fC.map qp),.int .i64 x.fl,.int .i64 x.fg,.bool x.fE]
theorem qdv(x:qe):sz (qh x)=7:=by first|rfl|(simp[qh,sz,szs,qfc,zw,zt])
structure qbp where
 fK:(List Gl)
 fJ:Int
def qaB(x:qbp):D:=.agg [.lst (x.fK.map zG),.int .i64 x.fJ]
structure qO where
 fG:Int
 fj:Int
 fA:Int
 fI:Int
 fL:(List Int)
def qbC(x:qO):D:=.agg [.int .i64 x.fG,.int .i64 x.fj,.int .i64 x.fA,.int .i64 x.fI,.lst (x.fL.map (D.int .i64))]
theorem qoH(x:qO):sz (qbC x)=5:=by first|rfl|(simp[qbC,sz,szs,qfc,zw,zt])
instance:DecidableEq S_api_Decl:=fun a b=>decidable_of_iff (a.fy=b.fy∧a.fH=b.fH) ⟨fun h=>by cases a;cases b;simp at h;simp[h],fun h=>by rw[h];simp⟩
theorem qn0:zbG prog 79 qH (fun a=>.agg #[.string a.fy,.int .i64 a.fH]):=.mk' (fun a=>[.str a.fy,.int .i64 a.fH]) ob underlying79 ob ob ob ob ob (fun _=>rfl) (fun _=>rfl) (fun _=>rfl) (fun a b h=>by cases a;cases b;simp at h;simp[h])
instance:WtI prog 79 qH (fun a=>.agg #[.string a.fy,.int .i64 a.fH]):=⟨qn0⟩
theorem qwn:zbi prog 4 (.bool false):=⟨.bool false,by kernel_rfl,fun _ _=>by simp only[Rep]⟩
theorem qmS:ArrT prog 285 57 2:=⟨underlying285,by kernel_rfl,by kernel_rfl⟩
theorem qmT:ArrT prog 286 26 2:=⟨underlying286,by kernel_rfl,by kernel_rfl⟩
theorem qvW:zbi prog 173 (.agg []):=⟨.agg #[],by kernel_rfl,fun _ _=>by simp only[Rep];exact⟨[],rfl,zj.nil _ _,by simp⟩⟩
theorem qma:yB prog 172 [.agg [.lst [],.lst [],.lst [],.lst [],.int .i64 0,.int .i64 0,.bool false],.agg [.lst [],.lst []],.nilm,.int .i64 0]:=.mk rfl ob underlying172 ob
instance:BtI prog 172 [.agg [.lst [],.lst [],.lst [],.lst [],.int .i64 0,.int .i64 0,.bool false],.agg [.lst [],.lst []],.nilm,.int .i64 0]:=⟨qma⟩
structure qv where
 f0_ids:(List Int)
 f1_env:(List (Int×T))
def qw(x:qv):D:=.agg [.lst (x.f0_ids.map (D.int .i64)),.lst (x.f1_env.map zw)]
theorem qkH(x:qv):sz (qw x)=2:=by first|rfl|(simp[qw,sz,szs,qfc,zw,zt])
structure qQ where
 f0_event:qO
 f1_choice:qv
def qaV(x:qQ):D:=.agg [qbC x.f0_event,qw x.f1_choice]
theorem qkl(x:qQ):sz (qaV x)=7:=by first|rfl|(simp[qaV,sz,szs,qfc,zw,zt])
theorem qlS:yB prog 249 [.agg [.lst (([]:List _).map qG),.lst (([]:List _).map zt),.lst (([]:List _).map zw),.lst (([]:List _).map qp),.int .i64 0,.int .i64 0,.bool false],.agg [.int .i64 0,.int .i64 0,.bool false],.int .i64 0,.agg [.str ⟨#[]⟩,.lst (([]:List _).map zK),.lst (([]:List _).map zK),.lst (([]:List _).map zG),.lst (([]:List _).map zG),.int .i64 0],.lst (([]:List _).map zK),.int .i64 0,.own (.slice none 0 0) []]:=.mk rfl ob underlying249 ob
instance(priority:=1100):BtI prog 249 [.agg [.lst (([]:List _).map qG),.lst (([]:List _).map zt),.lst (([]:List _).map zw),.lst (([]:List _).map qp),.int .i64 0,.int .i64 0,.bool false],.agg [.int .i64 0,.int .i64 0,.bool false],.int .i64 0,.agg [.str ⟨#[]⟩,.lst (([]:List _).map zK),.lst (([]:List _).map zK),.lst (([]:List _).map zG),.lst (([]:List _).map zG),.int .i64 0],.lst (([]:List _).map zK),.int .i64 0,.own (.slice none 0 0) []]:=⟨qlS⟩
theorem qB6:zbi prog 3 (.int .i64 0):=⟨.int .i64 0,by kernel_rfl,fun _ _=>by simp only[Rep];exact⟨trivial,rfl⟩⟩
theorem qmu:zbi prog 414 (.agg [.int .i64 0,.int .i64 0]):=⟨.agg #[.int .i64 0,.int .i64 0],by kernel_rfl,fun _ _=>by simp only[Rep,zj];exact⟨[.int .i64 0,.int .i64 0],rfl,⟨.int .i64 0,[.int .i64 0],by simp[Value.cells],⟨rfl,rfl⟩,⟨.int .i64 0,[],by simp[Value.cells],⟨rfl,rfl⟩,rfl⟩⟩,by simp[Value.oneCell']⟩⟩
structure qk where
 f0_size:Int
 f1_depth:Int
def qA(x:qk):D:=.agg [.int .i64 x.f0_size,.int .i64 x.f1_depth]
theorem qkj:yB prog 408 [.own (.slice none 0 0) [],.nilm,.vec (.slice none 0 0) 0,.nilm,.nilm,.nilm]:=.mk rfl ob underlying408 ob
instance(priority:=1100):BtI prog 408 [.own (.slice none 0 0) [],.nilm,.vec (.slice none 0 0) 0,.nilm,.nilm,.nilm]:=⟨qkj⟩
structure qt where
 f0_term:T
 f1_args:(List Int)
def qF(x:qt):D:=.agg [zg x.f0_term,.lst (x.f1_args.map (D.int .i64))]
theorem qnM(x:qt):sz (qF x)=5:=by first|rfl|(simp[qF,sz,szs,qfc,zw,zt])
theorem qnH:yB prog 411 [.agg [.int .i64 0,.int .i64 0,.str ⟨#[]⟩,.lst (([]:List _).map zg)],.own (.slice none 0 0) []]:=.mk rfl ob underlying411 ob
instance(priority:=1100):BtI prog 411 [.agg [.int .i64 0,.int .i64 0,.str ⟨#[]⟩,.lst (([]:List _).map zg)],.own (.slice none 0 0) []]:=⟨qnH⟩
theorem qjh:yB prog 362 [.own (.slice none 0 0) [],.own (.slice none 0 0) []]:=.mk rfl ob underlying362 ob
instance(priority:=1100):BtI prog 362 [.own (.slice none 0 0) [],.own (.slice none 0 0) []]:=⟨qjh⟩
end
noncomputable section
instance:EF prog 3 Int (D.int .i64) 1:=⟨fun _=>rfl,fun _=>rfl⟩
def zm(r:qs):List At:=r.fm++r.ft
def zcd(i:Nat)(r:qs):List (qD×At):=((zm r).zipIdx.map fun x=>((⟨(i:Int),(x.2:Int),decide ((x.2:Int)<(r.fm.length:Int))⟩:qD),x.1)).reverse
def yD(p:qf):List (qD×At):=(p.fe.zipIdx.map fun x=>zcd x.2 x.1).flatten
def qk0(p:qf):Option (List qD):=if(yD p).length<1000000000∧∀r∈p.fe,(zm r).length<1000000000 then some ((yD p).map (·.1))else none
def yJ(name:ByteArray)(arity:Int)(x:qD×At):Bool:=x.2.n.toList==name.toList&&((x.2.ts.length:Int)==arity)
def qnB(p:qf)(name:ByteArray)(arity:Int):Option (List qD):=if(yD p).length<1000000000∧∀r∈p.fe,(zm r).length<1000000000 then some (((yD p).filter (yJ name arity)).map (·.1))else none
def qgA(s:List qB)(g:List Gl):Option (List qB):=if s.length+g.length<1000000000 then some (s++g.reverse.map fun x=>⟨x,0,0⟩)else none
def qlE(l:List Int):Option (List qB):=if l.length<1000000000 then some (l.reverse.map fun i=>⟨⟨0,⟨#[]⟩,[]⟩,i,-1⟩)else none
def affL(l:List (Int×At))(v:List Int):List Int:=((l.filter fun x=>(zy x.2.ts).any fun i=>v.contains i).map (·.1)).mergeSort (fun a b=>decide (a≤b))
def zW:List Int→List Int |[]=>[] |[x]=>[x] |x::y::l=>if x=y then zW (y::l)else x::zW (y::l)
def qhP(l:List (Int×At))(v:List Int):Option (List Int):=if l.length<1000000000∧v.length<1000000000∧∀x∈l,wtL x.2.ts≤1000000000 then some (zW (affL l v))else none
def qiJ(l:List (Int×At))(id:Int):Option (List (Int×At)×Bool):=if l.length<1000000000 then(match l.findIdx? fun x=>x.1==id with|none=>some (l,false)|some k=>some (l.eraseIdx k,true))else none
def qlG(l:List (List qy)):Option (List qy):=if l.flatten.length<1000000000∧l.length<1000000000 then some l.flatten else none
def yE(n:Int):Bool:=decide (-2147483648≤n)&&decide (n≤2147483648)
def zcK(a b:Int):Int:=if Int.tmod a b≠0∧(decide (a<0)≠decide (b<0))then Int.tdiv a b-1 else Int.tdiv a b
def opV(op:ByteArray)(a b:Int):Option (Int×Int):=if op.toList=[43]then some (a+b,0)else if op.toList=[45]then some (a-b,0)else if op.toList=[42]then some (a*b,0)else if op.toList=[47]then if b=0 then some (0,12)else some (zcK a b,0) else if op.toList=[37]then if b=0 then some (0,12)else some (a-zcK a b*b,0) else none
def qlg(op:ByteArray)(a b:Int):Option (Int×Int):=some (match opV op a b with
 |none=>(0,7)
 |some (n,e)=>if !(yE a&&yE b)then(0,5)else if e≠0 then(0,e)else if !yE n then(0,5)else(n,0))
def qmk(t:T):Option Bool:=some (decide (t.k=2)&&decide (t.ar.length=2)&&(opV t.s 0 0).isSome)
def qh5(env:List (Int×T))(b:Int×T):Option (List (Int×T)):=if env.length<1000000000 then some (env.takeWhile (fun x=>!decide (x.1>b.1))++b::env.dropWhile fun x=>!decide (x.1>b.1))else none
mutual
def yQ:T→Int×Int
 |.mk k i s ar=>if k=1 then(0,17)else if k=0 then(if yE i then(i,0)else(0,5))else if !(decide (k=2)&&decide (ar.length=2)&&(opV s 0 0).isSome)then(0,11)else match zay ar with
  |.inl e=>(0,e)
  |.inr a=>(qlg s (a.getD 0 0) (a.getD 1 0)).getD (0,0)
def zay:List T→Int⊕List Int
 |[]=>.inr []
 |t::ts=>if(yQ t).2≠0 then .inl (yQ t).2 else match zay ts with
  |.inl e=>.inl e
  |.inr l=>.inr ((yQ t).1::l)
end
def qjW(t:T):Option (Int×Int):=if wt t≤1000000000 then some (yQ t)else none
end
instance:EF prog 81 At zK 2:=⟨qn7,fun _=>rfl⟩
def qkX(a:qs):Option (Int):=some ((wr ((a.fm.length:Int)+(a.ft.length:Int))))
theorem qyf(a:qs)(res:Int)(hr:qkX a=some res):zf prog 246 [qo a] (.int .i64 res):=by
 unfold qkX at hr;refine qdg {} func246 rfl fun K hK hF=>?_;exact wk
instance(a:qs):Cb prog 246 (qkX a) [qo a] (fun(res:Int)=>.int .i64 res):=⟨qyf a⟩
def qk5(a:qs):Option ((List At)):=(qkX a).bind fun b=>(zad 40 b).bind fun h=>(appO 40 [] a.fm).bind fun e=>(appO 40 e a.ft).bind fun g=>some g
def qs1:Tb:={ow:=[2]}
theorem qyt(a:qs)(res:(List At))(hr:qk5 a=some res):zf prog 189 [qo a] (.lst (res.map zK)):=by
 unfold qk5 at hr;refine qdg qs1 func189 rfl fun K hK hF=>?_;exact wk
theorem qsP{r:qs}(h:(zm r).length<1000000000):qk5 r=some (zm r):=by
 unfold zm at h⊢;rw[ja]at h;unfold qk5 qkX;rw[jb,qex oa,show zad 40 ((r.fm.length:Int)+(r.ft.length:Int))=some _ from if_pos oa,jb,qeL oe oe,jb,qeL oe oe];rfl
def zaa(k:List (qD×At)→Option (List (qD×At)))(i:Nat)(q:qs)(hs:List At):Nat→List (qD×At)→Option (List (qD×At)) |0,tr=>k tr |m+1,tr=>(getI hs (m:Int)).bind fun h=>bif decide (tr.length<1000000000)then zaa k i q hs m (tr++[(⟨(i:Int),(m:Int),decide ((m:Int)<(q.fm.length:Int))⟩,h)])else none
def zao(k:List (qD×At)→Option (List (qD×At))):List qs→List (qD×At)→Nat→Option (List (qD×At)) |[],tr,_=>k tr |q::rest,tr,i=>(qk5 q).bind fun hs=>(zaN (wr ((hs.length:Int)-1))).bind fun m=>zaa (fun tr=>zao k rest tr (i+1)) i q hs m tr
def zbB(p:qf):Option (List (qD×At)):=zao some p.fe [] 0
theorem qwx(p:qf)(l:Nat)(Y:List (qD×At)→St→Prop)
 (W:∀tr x σ,tr.length<1000000000→Y tr σ→zbJ prog l [qE x.1,zK x.2] σ fun d σ'=>d= .bool true∧Y (tr++[x]) σ')
 (res:List (qD×At)) (hr:zbB p=some res) (σ0:St) (Z:Y [] σ0):Spec prog 237 [.clo (.yield l) [] [],.ptr (qj p)] σ0 fun _ σ=>Y res σ:=by
 unfold zbB at hr;refine qam [(0,.clo (.yield l) [] []),(1,.ptr (qj p))] func237 rfl rfl fun K hK=>(qx (gr [.d,.d,.d,.d] (rd rfl (qan rfl qmC rfl rfl rfl rfl) (rd rfl (qak rfl rfl (by exact qpU) rfl) (rd rfl (qfU (f:=qo) p.fe rfl qlD rfl (asl rfl)) (rf rfl (qz ?_)))))))
 obtain⟨z,B,hr⟩:=exK (fun k=>zao k p.fe [] 0) hr;refine qBW 8 [] (l:=p.fe.map qo) rfl rfl (asl rfl) fun C=>?_;simp only[jh]at C;refine qf1 (fun env σ=>∃tr,env=[]∧Y tr σ∧z tr=some res) ?_ (fun H=>?_)
 ·
  rintro _ σ ⟨tr,rfl,a,hr⟩;rw[B]at hr;cases hr;refine qxt func237 _ .nil ?_;exact a
 ·
  refine qcS [(0,.clo (.yield l) [] []),(8,.lst (p.fe.map qo)),(9,.int .i64 (p.fe.length:Int)),(10,.int .i64 ((0:Nat):Int))] (sc rfl (sc rfl (sc rfl (sc rfl (Sub.nil _))))) (qhh (fun n env σ=>∃(tr:List (qD×At))(i:Nat),n=p.fe.length-i∧(env=[(0,.clo (.yield l) [] []),(8,.lst (p.fe.map qo)),(9,.int .i64 (p.fe.length:Int)),(10,.int .i64 (i:Int))])∧Y tr σ∧i≤p.fe.length∧zao z (p.fe.drop i) tr i=some res) (p.fe.length-0) ⟨[],0,rfl,rfl,Z,ju _,hr⟩ ?_);rintro n _ σ ⟨tr,i,rfl,rfl,a,I,hr⟩ J;rcases zat p.fe i I with⟨j,u,he0⟩|⟨q,j,u,L,V⟩
  ·
   rw[u,zao]at hr;refine qx (gr [.d] (rd rfl (qcs rfl rfl rfl rfl) (qz (qx (qa7 11 false rfl j (qL rfl (qi9 rfl (qcS [] (Sub.nil _) ?_))))))));exact H _ _ ⟨tr,rfl,a,hr⟩
  ·
   rw[u,zao]at hr;refine qx (gr [.d] (rd rfl (qcs rfl rfl rfl rfl) (qz (qx (qa7 11 true rfl j (qS rfl (qaC (qx (qcj (qx (gr [.d,.d,.d,.w,.d,.w] (rf rfl (rd rfl (qgj (f:=qo) p.fe rfl qlD rfl (asl rfl) rfl L qfB rfl) ?_)))))))))))));refine rd rfl (qak rfl rfl (by exact qkA) (qfB _)) (ew rfl (qd2 rfl qsL) ?_);rintro _ _ ⟨b4,rfl,rfl⟩;refine rc rfl (qgd rfl rfl rfl (qb0 _ rfl rfl rfl (Wk.refl _) (pf0 _) (by exact qkA) (qfB _) rfl rfl) (qz (qfL 4 b4 rfl (pf0 _) ?_)));obtain⟨hs,M,hr⟩:=zV hr;obtain⟨E,N,hr⟩:=zV hr;have F:=qps N;refine qx (gr [.d,.d,.d] (rd rfl (qak rfl rfl (by exact qkA) (qfB _)) (rd rfl (qcw rfl qoK (.oc rfl .nil) (qyt _ _ M)) (rc rfl (qz (qx (gr [.d,.d,.d,.d] (rf rfl (rd rfl (qfU (f:=zK) hs rfl qiR rfl (asl rfl)) (rd rfl (qqO rfl rfl rfl rfl) (rc rfl (qz ?_))))))))))));obtain⟨v,G,hr⟩:=exK (fun k=>zaa k i q hs E tr) hr;refine qf1 (fun env σ=>∃tr,env=[(0,.clo (.yield l) [] []),(8,.lst (p.fe.map qo)),(9,.int .i64 (p.fe.length:Int)),(10,.int .i64 (i:Int))]∧Y tr σ∧v tr=some res) ?_ (fun O=>?_)
   ·
    rintro _ σ ⟨tr,rfl,a,hr⟩;rw[G]at hr;refine qau (gr [.d,.d] (rd rfl (y4 (r:=((i+1:Nat):Int)) rfl rfl rfl (by simp[iar]) oa) (rf rfl (qz (qcS [(0,.clo (.yield l) [] []),(8,.lst (p.fe.map qo)),(9,.int .i64 (p.fe.length:Int)),(10,.int .i64 ((i+1:Nat):Int))] (sc rfl (sc rfl (sc rfl (sc rfl (Sub.nil _))))) ?_)))));exact J _ _ _ oa ⟨tr,i+1,rfl,rfl,a,by omega,hr⟩
   ·
    refine qvb 6 (d':=.int .i64 ((E:Int)-1)) rfl (congrArg (D.int .i64) F) (qcS [(0,.clo (.yield l) [] []),(3,.int .i64 (i:Int)),(4,.ptr (qo q)),(5,.lst (hs.map zK)),(8,.lst (p.fe.map qo)),(9,.int .i64 (p.fe.length:Int)),(10,.int .i64 (i:Int)),(6,.int .i64 ((E:Int)-1))] (sc rfl (sc rfl (sc rfl (sc rfl (sc rfl (sc rfl (sc rfl (sc rfl (Sub.nil _))))))))) (qhh (fun n env σ=>∃(tr:List (qD×At))(m:Nat),(m=n)∧(env=[(0,.clo (.yield l) [] []),(3,.int .i64 (i:Int)),(4,.ptr (qo q)),(5,.lst (hs.map zK)),(8,.lst (p.fe.map qo)),(9,.int .i64 (p.fe.length:Int)),(10,.int .i64 (i:Int)),(6,.int .i64 ((m:Int)-1))])∧Y tr σ∧zaa v i q hs m tr=some res) E ⟨tr,E,rfl,rfl,a,hr⟩ ?_));clear hr a;rintro n _ σ ⟨tr,m,rfl,rfl,a,hr⟩ S;refine qDm 6 rfl fun hb1=>?_;rcases zca m with⟨e,g⟩|⟨b,e,g⟩
    ·
     rw[e,zaa]at hr;refine qx (qx (gr [.d,.d] (rf rfl (rd rfl (qcs rfl rfl rfl rfl) (qz (qa7 21 false rfl g (qL rfl (qi9 rfl (qcS [(0,.clo (.yield l) [] []),(8,.lst (p.fe.map qo)),(9,.int .i64 (p.fe.length:Int)),(10,.int .i64 (i:Int))] (sc rfl (sc rfl (sc rfl (sc rfl (Sub.nil _))))) ?_)))))))));exact O _ _ ⟨tr,rfl,a,hr⟩
    ·
     rw[e,zaa]at hr;have g:decide ((b:Int)≥(0:Int))=true:=decide_eq_true oa;refine qvb 6 (d':=.int .i64 (b:Int)) rfl (by subst e;congr 1;omega) ?_;obtain⟨h,hh,hr⟩:=zV hr;obtain⟨hlen,hr⟩:tr.length<1000000000∧zaa v i q hs b (tr++[(⟨(i:Int),(b:Int),decide ((b:Int)<(q.fm.length:Int))⟩,h)])=some res:=by
      by_cases hlt:tr.length<1000000000;rw[decide_eq_true hlt]at hr;exact⟨hlt,hr⟩;rw[decide_eq_false hlt]at hr;cases hr
     refine qx (qx (gr [.d,.d] (rf rfl (rd rfl (qcs rfl rfl rfl rfl) (qz (qa7 21 true rfl g (qS rfl (qaC (qx (qcj (qx (ga [(0,.d),(1,.d),(2,.d),(3,.d),(4,.d),(5,.d),(6,.d),(7,.d),(8,.d),(9,.d),(10,.d),(11,.d),(12,.d),(13,.w),(14,.d)] (rf rfl ?_)))))))))))));refine rf rfl (rf rfl (rf rfl (rd rfl (qan rfl qqR rfl rfl rfl rfl) (rd rfl (qak rfl rfl (by exact qlK) rfl) (rd rfl (qfU (f:=zK) q.fm rfl qiR rfl (asl rfl)) (rd rfl (qcs rfl rfl rfl rfl) (rd rfl (qgS rfl qoZ (.oc rfl (.oc rfl (.oc rfl .nil))) (.cons rfl rfl rfl (.cons rfl rfl rfl (.cons rfl rfl rfl (.nil _))))) (rf rfl (rf rfl (rd rfl (qgj (f:=zK) hs rfl qiR rfl (asl rfl) rfl hh qn7 rfl) (rd rfl (qak rfl rfl (by exact qnT) (qn7 _)) (r_y rfl rfl rfl (qtr (σ1:=σ) [] rfl rfl (.oc rfl (.oc rfl .nil)) og (W tr (⟨(i:Int),(b:Int),decide ((b:Int)<(q.fm.length:Int))⟩,h) σ hlen a)) ?_))))))))))));rintro _ _ ⟨σ2,⟨rfl,U⟩,rfl⟩;rw[jv];refine rd rfl (ql8 rfl rfl) (qz (qL rfl (qaC (qau (gr [.d,.d,.d] (rf rfl (rd rfl (y4 (r:=(b:Int)-1) rfl rfl rfl rfl oa) (rc rfl (qz (qcS [(0,.clo (.yield l) [] []),(3,.int .i64 (i:Int)),(4,.ptr (qo q)),(5,.lst (hs.map zK)),(8,.lst (p.fe.map qo)),(9,.int .i64 (p.fe.length:Int)),(10,.int .i64 (i:Int)),(6,.int .i64 ((b:Int)-1))] (sc rfl (sc rfl (sc rfl (sc rfl (sc rfl (sc rfl (sc rfl (sc rfl (Sub.nil _))))))))) ?_))))))))));exact S _ _ _ oa ⟨_,b,rfl,rfl,U,hr⟩
theorem qlf(p:qf):zf prog 168 [qj p] (.clo (.func 237) [] [.ptr (qj p)]):=by
 refine qam [(0,qj p)] func168 rfl rfl fun K hK=>(qx (gr [.d,.d] (rd rfl (ql5 rfl rfl rfl) (rc rfl (qz (qx (gr [.d,.d] (rd rfl (qfW rfl rfl rfl) (rc rfl (qz (qbN func168 _ (.cons (zd rfl (Wk.refl _)) .nil) ?_)))))))))))
 rfl
def ocR(i:Nat)(q:qs)(hs:List At)(m:Nat):List (qD×At):=(((hs.take m).zipIdx).map fun x=>((⟨(i:Int),(x.2:Int),decide ((x.2:Int)<(q.fm.length:Int))⟩:qD),x.1)).reverse
theorem qzj{i m:Nat}{q:qs}{hs:List At}(h:m<hs.length):ocR i q hs (m+1)=(⟨(i:Int),(m:Int),decide ((m:Int)<(q.fm.length:Int))⟩,hs[m])::ocR i q hs m:=by
 unfold ocR;have e:hs.take (m+1)=hs.take m++[hs[m]]:=by rw[jI,jj h];rfl
 rw[e,List.zipIdx_append,jJ,List.reverse_append];have hl:(hs.take m).length=m:=by rw[jA];omega
 simp[hl]
theorem qAF{i m:Nat}{q:qs}{hs:List At}(h:m≤hs.length):(ocR i q hs m).length=m:=by
 unfold ocR;rw[List.length_reverse,jh,List.length_zipIdx,jA];omega
theorem qr8{k:List (qD×At)→Option (List (qD×At))}{i:Nat}{q:qs}{hs:List At}:∀(m:Nat)(tr:List (qD×At)),m≤hs.length→tr.length+m≤1000000000→zaa k i q hs m tr=k (tr++ocR i q hs m)
 |0,tr,_,_=>by simp[zaa,ocR]
 |m+1,tr,h,hl=>by
  rw[zaa,qfo,jj oa,jb,decide_eq_true oa,cond_true,qr8 m _ oa (by rw[ja,JX];omega),qzj oa,jo];rfl
theorem qrv{k:List (qD×At)→Option (List (qD×At))}:∀(l:List qs)(tr:List (qD×At))(i:Nat),(∀r∈l,(zm r).length<1000000000)→(tr++((l.zipIdx i).map fun x=>zcd x.2 x.1).flatten).length<1000000000→zao k l tr i=k (tr++((l.zipIdx i).map fun x=>zcd x.2 x.1).flatten)
 |[],tr,i,_,_=>by simp[zao]
 |q::l,tr,i,h,hl=>by
  have hq:=h q (je ..);rw[JQ,jm,vM]at hl⊢;have e:zcd i q=ocR i q (zm q) (zm q).length:=by
   unfold zcd ocR;rw[jF]
  dsimp only at hl⊢;rw[e]at hl⊢;have a:=qAF (i:=i) (q:=q) (hs:=zm q) (jf _);simp only[ja]at hl;rw[zao,qsP hq,jb,qex oa,show zaN (((zm q).length:Int)-1)=some (zm q).length from ?_,jb,qr8 _ _ (jf _) oa,qrv l _ (i+1) (fun r hr=>h r (jp _ hr)) (by simp only[ja];omega),jo];unfold zaN;rw[if_pos oa];congr 1
  omega
theorem qxr{p:qf}(h:(yD p).length<1000000000∧∀r∈p.fe,(zm r).length<1000000000):zbB p=some (yD p):=by
 unfold zbB;rw[qrv _ _ _ h.2 (by simpa[yD]using h.1)];rfl
theorem qvr{p:qf}{name:ByteArray}{arity:Int}{res:List qD}(h:qnB p name arity=some res):((zbB p).bind fun tr=>bif decide (tr.length<1000000000)then some ((tr.filter (yJ name arity)).map (·.1))else none)=some res:=by
 unfold qnB at h;split at h
 rename_i a
 rw[qxr a,jb,decide_eq_true a.1];exact h;cases h
theorem qsK{p:qf}{res:List qD}(h:qk0 p=some res):((zbB p).bind fun tr=>bif decide (tr.length<1000000000)then some (tr.map (·.1))else none)=some res:=by
 unfold qk0 at h;split at h
 rename_i a
 rw[qxr a,jb,decide_eq_true a.1];exact h;cases h
def OfS(a:Nat)(name:ByteArray)(arity:Int)(tr:List (qD×At))(σ:St):Prop:= ∃u,σ=[.cell a (.own u (((tr.filter (yJ name arity)).map (·.1)).map qE)),.row u ((tr.filter (yJ name arity)).map (·.1)).length 167 3]
theorem qxJ(p:qf)(name:ByteArray)(arity:Int)(res:List qD)(h:qnB p name arity=some res):zf prog 109 [qj p,.str name,.int .i64 arity] (.lst (res.map qE)):=by
 have h:=qvr h;obtain⟨tr,q,h⟩:=zV h;obtain⟨hlen,rfl⟩:tr.length<1000000000∧(tr.filter (yJ name arity)).map (·.1)=res:=by
  by_cases hlt:tr.length<1000000000;rw[decide_eq_true hlt]at h;exact⟨hlt,Option.some.inj h⟩;rw[decide_eq_false hlt]at h;cases h
 refine qam [(0,qj p),(1,.str name),(2,.int .i64 arity)] func109 rfl rfl fun K hK=>(qx (gr [.d,.d,.d,.d] (rd rfl (ql5 rfl rfl rfl) (rd rfl (ql5 rfl rfl rfl) (rd rfl (ql5 rfl rfl rfl) (rc rfl (qz (qx (gr [.w] (ew rfl (qo1 (el:=167) (s:=3) rfl qmq) ?_))))))))))
 rintro _ _ ⟨e,E,rfl,rfl⟩;refine qz (qx (qx (gr [.d,.d] (rd rfl (qak rfl rfl (by exact qb1) (qbL _)) (rd rfl (qcw rfl qlH (.oc rfl .nil) (qlf p)) (qz (qcj (qcS [(4,.ptr (.str name)),(5,.ptr (.int .i64 arity)),(7,.ref e 0 []),(11,.clo (.func 237) [] [.ptr (qj p)])] (sc rfl (sc rfl (sc rfl (sc rfl (Sub.nil _))))) ?_))))))));refine qiT (fun j σ=>j=none∧OfS e name arity tr σ) [] rfl rfl qjA (by simp;exact List.Perm.refl _) (fun l D tmps v=>?_) ?_
 -- F iterator
 refine zau (qwx p l (fun tr σ=>∃σ1,σ= .loop l [(4,.ptr (.str name)),(5,.ptr (.int .i64 arity)),(7,.ref e 0 []),(11,.clo (.func 237) [] [.ptr (qj p)])] (zbf 109 tmps _ _ _ D)::σ1∧OfS e name arity tr σ1) (fun tr x σ hl G=>?_) tr q _ ⟨_,rfl,E,rfl⟩) ?_;obtain⟨σ1,rfl,u,rfl⟩:=G;refine qqP rfl func109 v ob fun K hK=>(qcS [(13,zK x.2),(12,qE x.1),(4,.ptr (.str name)),(5,.ptr (.int .i64 arity)),(7,.ref e 0 [])] (sc rfl (sc rfl (sc rfl (sc rfl (sc rfl (Sub.nil _)))))) (qx (qgw ob [(0,.w),(1,.w)] rfl (ew rfl (qd2 rfl qo4) ?_))))
 rintro _ _ ⟨H,rfl,rfl⟩;refine qgd rfl rfl rfl (qb0 _ rfl rfl rfl (Wk.refl _) (pf0 _) (by exact qjP) (qd1 _) rfl rfl) (qz (qfL 8 H rfl (pf0 _) (qgw ob [(0,.w),(1,.w)] rfl (ew rfl (qd2 rfl qsN) ?_))));rintro _ _ ⟨I,rfl,rfl⟩;refine qgd rfl rfl rfl (qb0 _ rfl rfl rfl (Wk.refl _) (pf0 _) (by exact qnT) (qn7 _) rfl rfl) (qz (qfL 9 I rfl (pf0 _) ?_));refine qpJ rfl (pf0 _) ?_;refine qcj (qx (qgw ob [(0,.d),(1,.d),(2,.d),(3,.d),(4,.d),(5,.d),(6,.d),(7,.d),(8,.d),(9,.d),(10,.d)] rfl (rd rfl (qan rfl qp1 rfl rfl rfl rfl) (rd rfl (qak rfl rfl (by exact qlA) rfl) (rd rfl (qak rfl rfl (by exact qlA) rfl) (rd rfl (qnC rfl rfl rfl rfl) (rf rfl ?_)))))));refine qgm 18 rfl (fun a=>?_) (fun a=>?_);refine rd rfl (qan rfl qpO rfl rfl rfl rfl) ?_;refine rd rfl (qak rfl rfl (by exact qip) rfl) (rd rfl (qfU (f:=zg) x.2.ts rfl qil rfl (asl rfl)) (rd rfl (qak rfl rfl (by exact qgp) rfl) (rd rfl (qcs rfl rfl rfl rfl) (rd rfl (qiU rfl rfl rfl) (qz ?_)))));refine qbB 24 rfl (fun b=>?_) (fun b=>?_);have g:yJ name arity x=true:=by
  unfold yJ;rw[jk];exact⟨a,b⟩
 refine qS rfl ?_;have C:(tr.filter (yJ name arity)).length<1000000000:=JV (Jp _ _) hl;obtain⟨l2,z,B⟩:∃l2,appO 24 ((tr.filter (yJ name arity)).map (·.1)) [x.1]=some l2∧l2=((tr++[x]).filter (yJ name arity)).map (·.1):=⟨_,by unfold appO;exact if_pos ⟨by simp;omega,by simp;omega⟩,by simp[JK,g]⟩
 refine qgw ob [(0,.r),(1,.d),(2,.d),(3,.w),(4,.w)] rfl (r_r rfl rfl rfl (qc3 rfl rfl (.tail _ (.head _)) rfl rfl (by exact qft) rfl) (rd rfl (qak rfl rfl (by exact qjP) (qd1 _)) (rd rfl (qsx (f:=qE) [.tmp 26] [x.1] rfl qhl rfl rfl od od (.oc rfl .nil) qd1 (fun _=>rfl)) (ew rfl (qlj (f:=qE) (by_:=24) (r:=l2) ((tr.filter (yJ name arity)).map (·.1)) [x.1] rfl qhl rfl rfl (asl rfl) (zN _ _ _) rfl qd1 (by exact z)) ?_))));rintro _ _ ⟨u2,rfl,rfl⟩;refine qgd rfl rfl rfl (qb0 _ rfl rfl rfl (Wk.refl _) (zN _ _ _) (by exact qft) rfl rfl rfl) (qz (qau ?_));refine qoQ (zN _ _ _) ⟨rfl,_,rfl,u2,?_⟩;rw[←B];have g:yJ name arity x=false:=by
  unfold yJ;rw[show((x.2.ts.length:Int)==arity)=false from b];exact Bool.and_false _
 refine qL rfl (qaC (qau ?_));refine qoQ (pf0 _) ⟨rfl,_,rfl,u,?_⟩;simp[JK,g];have g:yJ name arity x=false:=by
  unfold yJ;rw[show(x.2.n.toList==name.toList)=false from a];rfl
 refine rh rfl (rh rfl (rh rfl (rh rfl (rh rfl (rd rfl (qhu rfl rfl rfl) (qz (qL rfl (qaC (qau ?_)))))))));refine qoQ (pf0 _) ⟨rfl,_,rfl,u,?_⟩;simp[JK,g];rintro _ σ ⟨σ1,rfl,J⟩;exact⟨.ready,none,σ1,by simp,rfl,rfl,J⟩;rintro D jump σ1 ⟨rfl,u,rfl⟩;refine qau (qx (qgw ob [(0,.r),(1,.d)] rfl (r_r rfl rfl rfl (qc3 rfl rfl (.tail _ (.head _)) rfl rfl (by exact qft) rfl) (rc rfl (qz ?_)))));refine qxS (ms:=[D]) _ (pf0 _) (.cons (zd rfl (Wk.own _ _)) .nil) ?_;rfl
def AlS(a:Nat)(tr:List (qD×At))(σ:St):Prop:= ∃u,σ=[.cell a (.own u ((tr.map (·.1)).map qE)),.row u (tr.map (·.1)).length 167 3]
theorem qvQ(p:qf)(res:List qD)(h:qk0 p=some res):zf prog 97 [qj p] (.lst (res.map qE)):=by
 have h:=qsK h;obtain⟨tr,b,h⟩:=zV h;obtain⟨hlen,rfl⟩:tr.length<1000000000∧tr.map (·.1)=res:=by
  by_cases hlt:tr.length<1000000000;rw[decide_eq_true hlt]at h;exact⟨hlt,Option.some.inj h⟩;rw[decide_eq_false hlt]at h;cases h
 refine qam [(0,qj p)] func97 rfl rfl fun K hK=>(qx (gr [.d,.d] (rd rfl (ql5 rfl rfl rfl) (rc rfl (qz (qx (gr [.w] (ew rfl (qo1 (el:=167) (s:=3) rfl qmq) ?_))))))))
 rintro _ _ ⟨a,q,rfl,rfl⟩;refine qz (qx (qx (gr [.d,.d] (rd rfl (qak rfl rfl (by exact qb1) (qbL _)) (rd rfl (qcw rfl qlH (.oc rfl .nil) (qlf p)) (qz (qcj (qcS [(3,.ref a 0 []),(6,.clo (.func 237) [] [.ptr (qj p)])] (sc rfl (sc rfl (Sub.nil _))) ?_))))))));refine qiT (fun j σ=>j=none∧AlS a tr σ) [] rfl rfl qjA (by simp;exact List.Perm.refl _) (fun l D tmps e=>?_) ?_
 -- v iterator
 refine zau (qwx p l (fun tr σ=>∃σ1,σ= .loop l [(3,.ref a 0 []),(6,.clo (.func 237) [] [.ptr (qj p)])] (zbf 97 tmps _ _ _ D)::σ1∧AlS a tr σ1) (fun tr x σ hl z=>?_) tr b _ ⟨_,rfl,q,rfl⟩) ?_;obtain⟨σ1,rfl,u,rfl⟩:=z;refine qqP rfl func97 e ob fun K hK=>(qcS [(8,zK x.2),(7,qE x.1),(3,.ref a 0 [])] (sc rfl (sc rfl (sc rfl (Sub.nil _)))) (qgw ob [(0,.w),(1,.w)] rfl (ew rfl (qd2 rfl qo4) ?_)))
 rintro _ _ ⟨B,rfl,rfl⟩;refine qgd rfl rfl rfl (qb0 _ rfl rfl rfl (Wk.refl _) (pf0 _) (by exact qjP) (qd1 _) rfl rfl) (qz (qfL 4 B rfl (pf0 _) ?_));refine qpJ rfl (pf0 _) ?_;refine qcj ?_;obtain⟨l2,g,n⟩:∃l2,appO 24 (tr.map (·.1)) [x.1]=some l2∧l2=(tr++[x]).map (·.1):=⟨_,by unfold appO;exact if_pos ⟨by simp;omega,by simp;omega⟩,by simp⟩
 refine qgw ob [(0,.r),(1,.d),(2,.d),(3,.w),(4,.w)] rfl (r_r rfl rfl rfl (qc3 rfl rfl (.tail _ (.head _)) rfl rfl (by exact qft) rfl) (rd rfl (qak rfl rfl (by exact qjP) (qd1 _)) (rd rfl (qsx (f:=qE) [.tmp 10] [x.1] rfl qhl rfl rfl od od (.oc rfl .nil) qd1 (fun _=>rfl)) (ew rfl (qlj (f:=qE) (by_:=24) (r:=l2) (tr.map (·.1)) [x.1] rfl qhl rfl rfl (asl rfl) (zN _ _ _) rfl qd1 (by exact g)) ?_))));rintro _ _ ⟨u2,rfl,rfl⟩;refine qgd rfl rfl rfl (qb0 _ rfl rfl rfl (Wk.refl _) (zN _ _ _) (by exact qft) rfl rfl rfl) (qz (qau ?_));refine qoQ (zN _ _ _) ⟨rfl,_,rfl,u2,?_⟩;rw[←n];rintro _ σ ⟨σ1,rfl,C⟩;exact⟨.ready,none,σ1,by simp,rfl,rfl,C⟩;rintro D jump σ1 ⟨rfl,u,rfl⟩;refine qau (qx (qgw ob [(0,.r),(1,.d)] rfl (r_r rfl rfl rfl (qc3 rfl rfl (.tail _ (.head _)) rfl rfl (by exact qft) rfl) (rc rfl (qz ?_)))));refine qxS (ms:=[D]) _ (pf0 _) (.cons (zd rfl (Wk.own _ _)) .nil) ?_;rfl
end
end Go.Proofs.YtgcegilpajfdhaaGreat
