/-
 Texts of the seat,merged.
-/
import Derived.Test.YtgcegilpajfdhaaGreatLTE
set_option linter.unusedVariables false
set_option linter.unusedSimpArgs false
set_option linter.unnecessarySimpa false
set_option linter.all false
set_option maxHeartbeats 8000000
namespace Go.Proofs.YtgcegilpajfdhaaGreat
open Go.Proofs.Tryz
set_option maxRecDepth 100000
open Go.RowKit
section
variable{P:Program}{o:Oper}{ρ:Operand→Option D}
def vnil:Value→Bool |.nilFunc=>true |_=>false
theorem qj9(w:World)(n:Nat)(t:TypeId){ps rs:Array TypeId}{vr:Bool}(v:Value)(h:P.underlying t=some (.func ps rs vr))(c:v= .nilFunc∨∃f a b,v= .func f a b):(Op.equalIn (n+1) t v .nilFunc).run P w= .ok (vnil v) w:=by
 rcases c with rfl|⟨f,a,b,rfl⟩<;>simp[Op.equalIn,run_underlying h,vnil]
def fnil:D→Option Bool |.clo _ _ _=>some false |.nilf=>some true |_=>none
theorem qtB{p:Addr→Prop}{w:World}{d:D}{v:Value}{b:Bool}(h:Rep p w d v)(hb:fnil d=some b):(v= .nilFunc∨∃f a b,v= .func f a b)∧vnil v=b:=by
 cases d<;>simp only[fnil,reduceCtorEq]at hb
 obtain rfl:=Option.some.inj hb;simp only[Rep]at h;obtain⟨c,cs,rfl,_⟩:=h;exact⟨.inr ⟨_,_,_,rfl⟩,rfl⟩;obtain rfl:=Option.some.inj hb;simp only[Rep]at h;exact⟨.inl h,by rw[h];rfl⟩
theorem qzE{x:Operand}{t j:TypeId}{ps rs:Array TypeId}{vr:Bool}{d:D}{b:Bool}(g:o.op= .binOp .eql t x (.const .nilFunc) j)(l:P.underlying t=some (.func ps rs vr))(m:ρ x=some d)(hd:fnil d=some b):zi P o ρ (.bool b):=qM fun p a w h=>by
 have n:=h x (by rw[g];simp[Op.operands]) _ m;obtain⟨c,q⟩:=qtB n hd;refine⟨.bool b,?_,by simp only[Rep]⟩;unfold execOp;rw[g];have r:eqGuard .eql t x (.const .nilFunc) (a.eval x) .nilFunc=pure ():=by
  rcases c with e|⟨f,u,v,e⟩<;>rw[e]<;>rfl
 have z:binOp .eql t (a.eval x) .nilFunc=(do pure (.bool (←Op.equal t (a.eval x) .nilFunc))):=by
  rcases c with e|⟨f,u,v,e⟩<;>rw[e]<;>rfl
 have A:a.eval (.const .nilFunc)= .nilFunc:=rfl;have B:(Op.equal t (a.eval x) .nilFunc).run P w= .ok (vnil (a.eval x)) w:=qj9 w 9999 t _ l c;simp[r,z,A,B,q]
theorem qz6{x:Operand}{t j:TypeId}{ps rs:Array TypeId}{vr:Bool}{d:D}{b:Bool}(g:o.op= .binOp .neq t x (.const .nilFunc) j)(l:P.underlying t=some (.func ps rs vr))(m:ρ x=some d)(hd:fnil d=some b):zi P o ρ (.bool (!b)):=qM fun p a w h=>by
 have n:=h x (by rw[g];simp[Op.operands]) _ m;obtain⟨c,q⟩:=qtB n hd;refine⟨.bool (!b),?_,by simp only[Rep]⟩;unfold execOp;rw[g];have r:eqGuard .neq t x (.const .nilFunc) (a.eval x) .nilFunc=pure ():=by
  rcases c with e|⟨f,u,v,e⟩<;>rw[e]<;>rfl
 have z:binOp .neq t (a.eval x) .nilFunc=(do pure (.bool (!(←Op.equal t (a.eval x) .nilFunc)))):=by
  rcases c with e|⟨f,u,v,e⟩<;>rw[e]<;>rfl
 have A:a.eval (.const .nilFunc)= .nilFunc:=rfl;have B:(Op.equal t (a.eval x) .nilFunc).run P w= .ok (vnil (a.eval x)) w:=qj9 w 9999 t _ l c;simp[r,z,A,B,q]
end
def qfn(a0:List Int):Option Bool:=forL (β:=Unit) (fun _ b _ a=>bif(decide (b<((-2147483648):Int)))then some false else bif(decide (b>(2147483648:Int)))then some false else a ()) (fun _=>some true) 0 a0 ()
def qpQ:Tb:={ls:=[(0,⟨Nat×Unit,[5,6],[],fun s e w=>([(7,.int .i64 (s.1:Int))],[]),[6]⟩)]}
theorem qmE(a0:List Int)(res:Bool)(hr:qfn a0=some res):zf prog 312 [.lst (a0.map (D.int .i64))] (.bool res):=by
 unfold qfn at hr;refine qdg qpQ func312 rfl fun K hK hF=>?_;exact wk
theorem qqf(l:List Int):qfn l=some (l.all yE):=by
 unfold qfn;generalize (0:Nat)=k;induction l generalizing k with
 |nil=>rfl
 |cons a l d=>
  rw[forL];have h:=d (k+1);by_cases b:a< -2147483648;rw[decide_eq_true b,cond_true,Jk,show yE a=false from by unfold yE;rw[decide_eq_false oa];rfl];rfl;by_cases c:a>2147483648;rw[decide_eq_false b,decide_eq_true c,cond_false,cond_true,Jk,show yE a=false from by unfold yE;rw[decide_eq_false (p:=a≤2147483648) oa,Bool.and_false]];rfl;rw[decide_eq_false b,decide_eq_false c,cond_false,cond_false,h,Jk,show yE a=true from by unfold yE;rw[decide_eq_true oa,decide_eq_true oa];rfl];rfl
theorem qme(l:List Int):zf prog 312 [.lst (l.map (D.int .i64))] (.bool (l.all yE)):=qmE l _ (qqf l)
theorem qCS(a b:Int):zf prog 370 [.int .i64 a,.int .i64 b] (.tup [.int .i64 (wr (a+b)),.int .i64 0]):=by
 obtain⟨res,hr⟩:∃res:Int×Int,some (wr (a+b),0)=some res:=⟨_,rfl⟩
 have e:=Option.some.inj hr;rw[show wr (a+b)=res.1 from by rw[←e],show(0:Int)=res.2 from by rw[←e]];refine qdg {} func370 rfl fun K hK hF=>?_;exact wk
theorem qBJ(a b:Int):zf prog 371 [.int .i64 a,.int .i64 b] (.tup [.int .i64 (wr (a-b)),.int .i64 0]):=by
 obtain⟨res,hr⟩:∃res:Int×Int,some (wr (a-b),0)=some res:=⟨_,rfl⟩
 have e:=Option.some.inj hr;rw[show wr (a-b)=res.1 from by rw[←e],show(0:Int)=res.2 from by rw[←e]];refine qdg {} func371 rfl fun K hK hF=>?_;exact wk
theorem qBK(a b:Int):zf prog 372 [.int .i64 a,.int .i64 b] (.tup [.int .i64 (wr (a*b)),.int .i64 0]):=by
 obtain⟨res,hr⟩:∃res:Int×Int,some (wr (a*b),0)=some res:=⟨_,rfl⟩
 have e:=Option.some.inj hr;rw[show wr (a*b)=res.1 from by rw[←e],show(0:Int)=res.2 from by rw[←e]];refine qdg {} func372 rfl fun K hK hF=>?_;exact wk
def zcf(a b:Int):Int:=if Int.tmod a b≠0∧(decide (a<0)≠decide (b<0))then wr (wr (Int.tdiv a b)-1)else wr (Int.tdiv a b)
theorem qoh(a b:Int)(hb:b≠0):zf prog 374 [.int .i64 a,.int .i64 b] (.int .i64 (zcf a b)):=by
 refine qam [(0,.int .i64 a),(1,.int .i64 b)] func374 rfl rfl fun K hK=>(qx (gr [.d] (rc rfl (qz (qx (gr [.d,.d,.d,.d] (rf rfl (rf rfl (rd rfl (qCu rfl rfl rfl hb) (rc rfl (qz (qx (qx ?_)))))))))))))
 refine gr [.d,.d,.d,.d,.d,.d,.d,.d,.d,.d,.d] (rf rfl (rf rfl (rd rfl (qCq rfl rfl rfl hb) (rd rfl (qcs rfl rfl rfl rfl) (rf rfl ?_)))));refine qgm 13 rfl (fun c=>?_) (fun c=>?_);refine rf rfl ?_;refine rd rfl (qcs rfl rfl rfl rfl) (rf rfl (rd rfl (qcs rfl rfl rfl rfl) (rd rfl (qzy rfl rfl rfl rfl) (rd rfl (qiU rfl rfl rfl) (qz ?_)))));refine qbB 19 rfl (fun e=>?_) (fun e=>?_);refine qS rfl ?_;refine gr [.d,.d,.d] (rf rfl (rd rfl (qqO rfl rfl rfl rfl) (rc rfl (qz (qx (gr [.d,.d] (rf rfl (rc rfl (qz (qbN func374 [_] (.cons (zd rfl (Wk.refl _)) .nil) ?_))))))))));unfold zcf;rw[if_pos ⟨by simpa using c,by simpa using e⟩];rfl;refine qL rfl ?_;refine qaC (qx (gr [.d,.d] (rf rfl (rc rfl (qz (qbN func374 [_] (.cons (zd rfl (Wk.refl _)) .nil) ?_))))));unfold zcf;rw[if_neg (fun f=>f.2 (by simpa using e))];rfl;refine rh rfl ?_;refine rh rfl (rh rfl (rh rfl (rh rfl (rd rfl (qhu rfl rfl rfl) (qz (qL rfl (qaC (qx (gr [.d,.d] (rf rfl (rc rfl (qz (qbN func374 [_] (.cons (zd rfl (Wk.refl _)) .nil) ?_)))))))))))));unfold zcf;rw[if_neg (fun f=>f.1 (by simpa using c))];rfl
theorem qB1(a b:Int)(hb:b≠0):zf prog 375 [.int .i64 a,.int .i64 b] (.int .i64 (wr (a-wr (zcf a b*b)))):=by
 refine qam [(0,.int .i64 a),(1,.int .i64 b)] func375 rfl rfl fun K hK=>(qx (gr [.d] (rc rfl (qz (qx (gr [.d,.d,.d,.d,.d,.d,.d,.d] (rf rfl (rf rfl (rf rfl (rd rfl (qcw rfl CaI.h (.oc rfl (.oc rfl .nil)) (qoh a b hb)) (rf rfl (rd rfl (qqO rfl rfl rfl rfl) (rd rfl (qqO rfl rfl rfl rfl) ?_)))))))))))))
 refine rc rfl (qz (qbN func375 [_] (.cons (zd rfl (Wk.refl _)) .nil) ?_));rfl
theorem qnj(g:FuncId)(e:callee prog g)(a b r:Int)(h:b≠0→zf prog g [.int .i64 a,.int .i64 b] (.int .i64 r)):zf prog 391 [.int .i64 a,.int .i64 b,.ptr (.clo (.func g) [] [])] (.tup [.int .i64 (if b=0 then 0 else r),.int .i64 (if b=0 then 12 else 0)]):=by
 refine qam [(0,.int .i64 a),(1,.int .i64 b),(2,.ptr (.clo (.func g) [] []))] func391 rfl rfl fun K hK=>(qx (gr [.d,.d] (rc rfl (rc rfl (qz (qx (qx (gr [.d,.d] (rf rfl (rd rfl (qcs rfl rfl rfl rfl) (qz ?_)))))))))))
 refine qbB 8 rfl (fun c=>?_) (fun c=>?_);have hb:b=0:=by simpa using c
 rw[if_pos hb,if_pos hb];refine qS rfl (qx (gr [.d,.d] (rc rfl (rc rfl (qz (qbN func391 [_,_] (.cons (zd rfl (Wk.refl _)) (.cons (zd rfl (Wk.refl _)) .nil)) ?_))))));rfl;have hb:b≠0:=by simpa using c
 rw[if_neg hb,if_neg hb];refine qL rfl (qaC (qx (gr [.d,.d,.d,.d,.d,.d] (rd rfl (qak rfl rfl (by exact⟨⟨_,underlying103,rfl⟩,by kernel_rfl⟩) rfl) (rf rfl (rf rfl (rd rfl (qiQ rfl rfl e (.oc rfl (.oc rfl .nil)) rfl (h hb)) (rc rfl (rc rfl (qz (qbN func391 [_,_] (.cons (zd rfl (Wk.refl _)) (.cons (zd rfl (Wk.refl _)) .nil)) ?_)))))))))));rfl
theorem qo2(g:FuncId):zf prog 373 [.clo (.func g) [] []] (.clo (.func 391) [] [.ptr (.clo (.func g) [] [])]):=by
 obtain⟨res,hr⟩:∃res:D,some (.clo (.func 391) [] [.ptr (.clo (.func g) [] [])])=some res:=⟨_,rfl⟩
 have e:=Option.some.inj hr;rw[e];refine qdg {} func373 rfl fun K hK hF=>?_;exact wk
def ofD(op:ByteArray):D:=if op.toList==(⟨#[43]⟩:ByteArray).toList then .clo (.func 370) [] []else if op.toList==(⟨#[45]⟩:ByteArray).toList then .clo (.func 371) [] []else if op.toList==(⟨#[42]⟩:ByteArray).toList then .clo (.func 372) [] []else if op.toList==(⟨#[47]⟩:ByteArray).toList then .clo (.func 391) [] [.ptr (.clo (.func 374) [] [])]else if op.toList==(⟨#[37]⟩:ByteArray).toList then .clo (.func 391) [] [.ptr (.clo (.func 375) [] [])]else .nilf
theorem qBN(op:ByteArray):zf prog 336 [.str op] (ofD op):=by
 refine qam [(0,.str op)] func336 rfl rfl fun K hK=>(qx (gr [.d] (rc rfl (qz (qx (qx (gr [.d] (rf rfl (qz (qcj (qx (gr [.d,.d] (rd rfl (qnC rfl rfl rfl rfl) ?_)))))))))))))
 refine rc rfl (qz ?_);refine qbB 4 rfl (fun a=>?_) (fun a=>?_);refine qS rfl ?_;refine qx (gr [.d] (rc rfl (qz (qbN func336 [_] (.cons (zd rfl (Wk.refl _)) .nil) ?_))));unfold ofD;rw[if_pos a];rfl;unfold ofD;rw[if_neg (vN.1 a)];refine qL rfl (qx (gr [.d,.d] (rd rfl (qnC rfl rfl rfl rfl) (rc rfl (qz ?_)))));refine qbB 6 rfl (fun b=>?_) (fun b=>?_);refine qS rfl ?_;refine qx (gr [.d] (rc rfl (qz (qbN func336 [_] (.cons (zd rfl (Wk.refl _)) .nil) ?_))));rw[if_pos b];rfl;rw[if_neg (vN.1 b)];refine qL rfl (qx (gr [.d,.d] (rd rfl (qnC rfl rfl rfl rfl) (rc rfl (qz ?_)))));refine qbB 8 rfl (fun c=>?_) (fun c=>?_);refine qS rfl ?_;refine qx (gr [.d] (rc rfl (qz (qbN func336 [_] (.cons (zd rfl (Wk.refl _)) .nil) ?_))));rw[if_pos c];rfl;rw[if_neg (vN.1 c)];refine qL rfl (qx (gr [.d,.d] (rd rfl (qnC rfl rfl rfl rfl) (rc rfl (qz ?_)))));refine qbB 10 rfl (fun e=>?_) (fun e=>?_);refine qS rfl ?_;refine qx (gr [.d,.d] (rd rfl (qcw rfl CaI.h (.oc rfl .nil) (qo2 _)) (rc rfl (qz (qbN func336 [_] (.cons (zd rfl (Wk.refl _)) .nil) ?_)))));rw[if_pos e];rfl;rw[if_neg (vN.1 e)];refine qL rfl (qx (gr [.d,.d] (rd rfl (qnC rfl rfl rfl rfl) (rc rfl (qz ?_)))));refine qbB 13 rfl (fun f=>?_) (fun f=>?_);refine qS rfl ?_;refine qx (gr [.d,.d] (rd rfl (qcw rfl CaI.h (.oc rfl .nil) (qo2 _)) (rc rfl (qz (qbN func336 [_] (.cons (zd rfl (Wk.refl _)) .nil) ?_)))));rw[if_pos f];rfl;rw[if_neg (vN.1 f)];refine qL rfl (qaC (qau (qx (gr [.d] (rc rfl (qz (qbN func336 [_] (.cons (zd rfl (Wk.refl _)) .nil) ?_)))))));rfl
def opW(op:ByteArray)(a b:Int):Option (Int×Int):=if op.toList==(⟨#[43]⟩:ByteArray).toList then some (wr (a+b),0)else if op.toList==(⟨#[45]⟩:ByteArray).toList then some (wr (a-b),0)else if op.toList==(⟨#[42]⟩:ByteArray).toList then some (wr (a*b),0)else if op.toList==(⟨#[47]⟩:ByteArray).toList then some (if b=0 then 0 else zcf a b,if b=0 then 12 else 0)else if op.toList==(⟨#[37]⟩:ByteArray).toList then some (if b=0 then 0 else wr (a-wr (zcf a b*b)),if b=0 then 12 else 0)else none
theorem qro(op:ByteArray)(a b:Int):(ofD op= .nilf∧opW op a b=none)∨∃g cs q,ofD op= .clo (.func g) [] cs∧callee prog g∧opW op a b=some q∧zf prog g ([.int .i64 a,.int .i64 b]++cs) (.tup [.int .i64 q.1,.int .i64 q.2]):=by
 unfold ofD opW;split
 exact .inr ⟨_,_,_,rfl,CaI.h,rfl,qCS a b⟩;split
 exact .inr ⟨_,_,_,rfl,CaI.h,rfl,qBJ a b⟩;split
 exact .inr ⟨_,_,_,rfl,CaI.h,rfl,qBK a b⟩;split
 exact .inr ⟨_,_,_,rfl,CaI.h,rfl,qnj _ CaI.h a b _ (qoh a b)⟩;split
 exact .inr ⟨_,_,_,rfl,CaI.h,rfl,qnj _ CaI.h a b _ (qB1 a b)⟩;exact .inl ⟨rfl,rfl⟩
theorem toL1(c:UInt8):(⟨#[c]⟩:ByteArray).toList=[c]:=by simp[ByteArray.toList,ByteArray.toList.loop,ByteArray.size,ByteArray.get!]
def qjK(op:ByteArray)(a b:Int):Int×Int:=match opW op a b with
 |none=>(0,7)
 |some (n,e)=>if(yE a&&yE b)=false then(0,5)else if e=0 then(if yE n then(n,0)else(0,5))else(0,e)
theorem qyM(op:ByteArray)(a b:Int):zf prog 314 [.str op,.int .i64 a,.int .i64 b] (.tup [.int .i64 (qjK op a b).1,.int .i64 (qjK op a b).2]):=by
 refine qam [(0,.str op),(1,.int .i64 a),(2,.int .i64 b)] func314 rfl rfl fun K hK=>(qx (gr [.d,.d] (rc rfl (rc rfl (qz (qx (gr [.d,.d,.d] (rf rfl (rd rfl (qcw rfl CaI.h (.oc rfl .nil) (qBN op)) (rc rfl (qz (qx (qx ?_)))))))))))))
 rcases qro op a b with⟨p,r⟩|⟨g,cs,q,p,u,r,v⟩
 rw[p];refine gr [.d,.d] (rf rfl (rd rfl (qzE (b:=true) rfl underlying385 rfl rfl) (qz (qS rfl (qx (gr [.d,.d] (rc rfl (rc rfl (qz (qbN func314 [_,_] (.cons (zd rfl (Wk.refl _)) (.cons (zd rfl (Wk.refl _)) .nil)) ?_))))))))));unfold qjK;rw[r];rfl;rw[p];unfold qjK;rw[r];refine gr [.d,.d] (rf rfl (rd rfl (qzE (b:=false) rfl underlying385 rfl rfl) (qz (qL rfl (qaC (qx (qx (gr [.d,.d,.d,.d,.d] (rf rfl (rf rfl (rd rfl (qsx (f:=D.int .i64) [.tmp 15,.tmp 16] [a,b] rfl qfK rfl rfl od od (.oc rfl (.oc rfl .nil)) (fun _=>rfl) (fun _=>rfl)) (rd rfl (qcw rfl CaI.h (.cons rfl (Wk.full _) .nil) (qme [a,b])) (rd rfl (ql8 rfl rfl) ?_)))))))))))));refine qz ?_;have t:[a,b].all yE=(yE a&&yE b):=by simp
 rw[t];refine qbB 19 rfl (fun n=>?_) (fun n=>?_);have e:(yE a&&yE b)=false:=by cases j:(yE a&&yE b)<;>simp[j]at n⊢
 refine qS rfl (qx (gr [.d,.d] (rc rfl (rc rfl (qz (qbN func314 [_,_] (.cons (zd rfl (Wk.refl _)) (.cons (zd rfl (Wk.refl _)) .nil)) ?_))))));dsimp only;rw[if_pos e];rfl;have e:¬(yE a&&yE b)=false:=by intro j;rw[j]at n;cases n
 refine qL rfl (qaC (qx (gr [.d,.d,.d,.d,.d,.d,.d,.d,.d] (rf rfl (rf rfl (rf rfl (rd rfl (qiQ rfl rfl u (.oc rfl (.oc rfl .nil)) rfl v) (rf rfl (rd rfl (qec rfl rfl rfl) (rd rfl (qec rfl rfl rfl) (rc rfl (rc rfl (qz ?_)))))))))))));dsimp only;rw[if_neg e];refine qx (qx (gr [.d,.d,.d,.d,.d,.d,.d,.d] (rf rfl (rd rfl (qcs rfl rfl rfl rfl) (rf rfl ?_)))));refine qgm 29 rfl (fun l=>?_) (fun l=>?_);have he:q.2=0:=by simpa using l
 rw[if_pos he];refine rf rfl (rd rfl (qsx (f:=D.int .i64) [.tmp 30] [q.1] rfl qfK rfl rfl od od (.oc rfl .nil) (fun _=>rfl) (fun _=>rfl)) (rd rfl (qcw rfl CaI.h (.cons rfl (Wk.full _) .nil) (qme [q.1])) (rd rfl (ql8 rfl rfl) (rd rfl (qiU rfl rfl rfl) (qz ?_)))));have m:[q.1].all yE=yE q.1:=by simp
 rw[m];refine qbB 34 rfl (fun c=>?_) (fun c=>?_);have hn:¬yE q.1=true:=by intro j;rw[j]at c;cases c
 refine qS rfl (gr [.d] (rc rfl (qz (qx (qx (gr [.d,.d] (rf rfl (rd rfl (qcs rfl rfl rfl rfl) (qz (qa7 36 true rfl rfl (qS rfl (qx (gr [.d,.d,.d] ?_)))))))))))));refine rf rfl (rc rfl (rc rfl (qz (qbN func314 [_,_] (.cons (zd rfl (Wk.refl _)) (.cons (zd rfl (Wk.refl _)) .nil)) ?_))));rw[if_neg hn];rfl;have hn:yE q.1=true:=by cases j:yE q.1<;>simp[j]at c⊢
 refine qL rfl (qaC (qx (qx (gr [.d,.d] (rf rfl (rd rfl (qcs rfl rfl rfl rfl) (qz (qa7 36 false rfl (by simp[he]) (qL rfl (qaC (qx (gr [.d,.d,.d] (rf rfl ?_)))))))))))));refine rc rfl (rc rfl (qz (qbN func314 [_,_] (.cons (zd rfl (Wk.refl _)) (.cons (zd rfl (Wk.refl _)) .nil)) ?_)));rw[if_pos hn];rfl;have he:q.2≠0:=by simpa using l
 rw[if_neg he];refine rh rfl (rh rfl (rh rfl (rh rfl (rd rfl (qhu rfl rfl rfl) (qz (qL rfl (qaC (qx (qx (gr [.d,.d] (rf rfl (rd rfl (qcs rfl rfl rfl rfl) (qz ?_)))))))))))));refine qa7 36 true rfl (by simp[he]) (qS rfl (qx (gr [.d,.d,.d] (rf rfl (rc rfl (rc rfl (qz (qbN func314 [_,_] (.cons (zd rfl (Wk.refl _)) (.cons (zd rfl (Wk.refl _)) .nil)) ?_))))))));rfl
theorem qtm(t:T):zf prog 313 [zg t] (.bool (decide (t.k=2)&&decide (t.ar.length=2)&&(opW t.s 0 0).isSome)):=by
 have hs:fnil (ofD t.s)=some (!(opW t.s 0 0).isSome):=by
  rcases qro t.s 0 0 with⟨j,l⟩|⟨g,cs,q,j,_,l,_⟩<;>rw[j,l]<;>rfl
 rw[zg];refine qam [(0,.agg (fsT t))] func313 rfl rfl fun K hK=>(qx (gr [.d,.d] (rd rfl (ql5 rfl rfl rfl) (rc rfl (qz (qx (gr [.d,.d,.d,.d,.d,.d,.d,.d,.d,.d,.d,.d,.d,.d,.d,.d] (rd rfl (qan rfl qfG rfl (qjX _) (qjT _) rfl) (rd rfl (qak rfl rfl (by exact qgp) rfl) (rd rfl (qcs rfl rfl rfl rfl) (rf rfl ?_)))))))))))
 refine qgm 6 rfl (fun e=>?_) (fun e=>?_);have c:t.k=2:=by simpa using e
 rw[decide_eq_true c,vp];refine rd rfl (qan rfl qlp rfl (qqH _) (qpV _) rfl) (rd rfl (qak rfl rfl (by exact qip) rfl) (rd rfl (qfU (f:=zg) t.ar rfl qil rfl (asl rfl)) (rd rfl (qcs rfl rfl rfl rfl) (rd rfl (qiU rfl rfl rfl) (rf rfl ?_)))));refine qgm 12 rfl (fun b=>?_) (fun b=>?_);have a:t.ar.length=2:=by
  have:(t.ar.length:Int)=2:=by simpa using b
  omega
 rw[decide_eq_true a,vp];refine rd rfl (qan rfl qlr rfl (qqw _) (qqv _) rfl) (rd rfl (qak rfl rfl (by exact qlA) rfl) (rd rfl (qcw rfl CaI.h (.oc rfl .nil) (qBN t.s)) (rd rfl (qz6 rfl underlying385 rfl hs) (rd rfl (qiU rfl rfl rfl) (rc rfl (qz (qbN func313 [_] (.cons (zd rfl (Wk.refl _)) .nil) ?_)))))));rw[Bool.not_not];rfl;have a:¬t.ar.length=2:=by intro m;rw[m]at b;cases b
 rw[decide_eq_false a,Bool.false_and];refine rh rfl (rh rfl (rh rfl (rh rfl (rd rfl (qhu rfl rfl rfl) (rc rfl (qz (qbN func313 [_] (.cons (zd rfl (Wk.refl _)) .nil) ?_)))))));rfl;have c:¬t.k=2:=by simpa using e
 rw[decide_eq_false c,Bool.false_and,Bool.false_and];refine rh rfl (rh rfl (rh rfl (rh rfl (rd rfl (qhu rfl rfl rfl) (rf rfl (rh rfl (rh rfl (rh rfl (rh rfl (rd rfl (qhu rfl rfl rfl) (rc rfl (qz (qbN func313 [_] (.cons (zd rfl (Wk.refl _)) .nil) ?_)))))))))))));rfl
theorem qmi(a:Int)(h:yE a=true):a.natAbs≤2147483648:=by
 unfold yE at h;rw[jk,decide_eq_true_eq,decide_eq_true_eq]at h;omega
theorem qAr{a b:Int}(c:yE a=true):zcf a b=zcK a b∧(zcK a b).natAbs≤2147483649:=by
 have d:=qmi a c;have e:(Int.tdiv a b).natAbs≤2147483648:=by
  rw[Int.natAbs_tdiv];exact vG (Nat.div_le_self _ _) d
 unfold zcf zcK;rw[qex (n:=Int.tdiv a b) oa];split
 exact⟨qex oa,by omega⟩;exact⟨rfl,by omega⟩
theorem qwq{a b:Int}{m n:Nat}(c:a.natAbs≤m)(hb:b.natAbs≤n):(a*b).natAbs≤m*n:=by
 rw[Int.natAbs_mul];exact Nat.mul_le_mul c hb
theorem quz(op:ByteArray)(a b:Int):(opW op a b).isSome=(opV op 0 0).isSome:=by
 unfold opW opV;simp only[toL1,beq_iff_eq];split;rfl
 split;rfl
 split;rfl
 split;rfl
 split<;>rfl
theorem qy4(op:ByteArray)(a b:Int):(opV op a b).isSome=(opV op 0 0).isSome:=by
 unfold opV;by_cases c:b=0;simp only[c];split;rfl
 split;rfl
 split;rfl
 split;rfl
 split<;>rfl
 simp only[c];split;rfl
 split;rfl
 split;rfl
 split;rfl
 split<;>rfl
theorem qBv(op:ByteArray)(a b:Int)(c:yE a=true)(hb:yE b=true):opW op a b=opV op a b:=by
 have f:=qmi a c;have d:=qmi b hb;obtain⟨g,h⟩:=qAr (b:=b) c;have hm:=qwq f d;have hq:=qwq h d;unfold opW opV;simp only[toL1,beq_iff_eq];rw[qex (n:=a+b) oa,qex (n:=a-b) oa,qex (n:=a*b) oa,g,qex (n:=zcK a b*b) oa,qex (n:=a-zcK a b*b) oa];by_cases e:b=0;simp only[if_pos e];simp only[if_neg e]
theorem qyR(op:ByteArray)(a b:Int):some (qjK op a b)=qlg op a b:=by
 unfold qjK qlg;congr 1
 by_cases c:(yE a&&yE b)=true;rw[qBv op a b (by rw[jk]at c;exact c.1) (by rw[jk]at c;exact c.2),c];cases opV op a b with
 |none=>rfl
 |some q=>
  obtain⟨n,e⟩:=q;dsimp only;by_cases he:e=0;subst he;cases yE n<;>rfl
  rw[if_neg od,if_neg he,if_neg od,if_pos he]
 have f:(yE a&&yE b)=false:=by simpa using c
 rw[f];have d:=quz op a b;rw[←qy4 op a b]at d;cases hw:opW op a b with
 |none=>
  rw[hw]at d;cases g:opV op a b with
  |none=>rfl
  |some q=>rw[g]at d;cases d
 |some q=>
  rw[hw]at d;cases g:opV op a b with
  |none=>rw[g]at d;cases d
  |some q=>rfl
theorem qkY(t:T)(res:Bool)(h:qmk t=some res):zf prog 313 [zg t] (.bool res):=by
 obtain rfl:=Option.some.inj h;rw[←quz t.s 0 0];exact qtm t
theorem qsR{P:Program}{o:Oper}{ρ:Operand→Option D}{t e:TypeId}{x ix:Operand}{b off n es m:Nat}{path:List Nat}{k:IntKind}(c:o.op= .indexAddr t x ix)(g:ArrE P t e n es)(q:ρ x=some (.ref b off path))(d:ρ ix=some (.int k (m:Int)))(hm:m<n):zi P o ρ (.ref b (off+m*es) (path++[m])):=qM fun p a w h=>by
 have j:=h x (by rw[c];simp[Op.operands]) _ q;have l:=h ix (by rw[c];simp[Op.operands]) _ d;simp only[Rep]at j l;obtain⟨i0,hi,f⟩:=jC.1 g.size;refine⟨.pointer (some ⟨b,off+m*es,none⟩),?_,by simp only[Rep]⟩;unfold execOp;rw[c];have hb:(0:Int)≤m∧(m:Int)<n:=by omega
 simp[j,l.1,Instr.indexAt,asIntOf,run_underlying g.und,Instr.sureAddr,hm,sizeOf,typeInfo,hi,f,zan]
theorem qyV(t:T):yQ t=if t.k=1 then(0,17)else if t.k=0 then(if yE t.i then(t.i,0)else(0,5))else if !(decide (t.k=2)&&decide (t.ar.length=2)&&(opV t.s 0 0).isSome)then(0,11)else match zay t.ar with
 |.inl e=>(0,e)
 |.inr a=>(qlg t.s (a.getD 0 0) (a.getD 1 0)).getD (0,0):=by
 cases t;rw[yQ];rfl
theorem vals2{a b:Int}{m:Nat}(hm:m<2):zai (.agg [.int .i64 a,.int .i64 b]) [m]=some (.int .i64 (if m=0 then a else b))∧yT (.agg [.int .i64 a,.int .i64 b]) [m]=m∧∀v,zaF (.agg [.int .i64 a,.int .i64 b]) [m] (.int .i64 v)= .agg [.int .i64 (if m=0 then v else a),.int .i64 (if m=0 then b else v)]:=by
 have:m=0∨m=1:=by omega
 rcases this with rfl|rfl
 exact⟨rfl,rfl,fun _=>rfl⟩;exact⟨rfl,rfl,fun _=>rfl⟩
theorem zvII:yv prog 366 (.agg [.int .i64 0,.int .i64 0]):=⟨rfl,.agg #[.int .i64 0,.int .i64 0],by kernel_rfl,rfl⟩
theorem zcF:ArrE prog 366 3 2 1:=⟨underlying366,by kernel_rfl⟩
theorem qsj(t:T)(N:∀q∈t.ar,zf prog 288 [zg q] (.tup [.int .i64 (yQ q).1,.int .i64 (yQ q).2])):zf prog 288 [zg t] (.tup [.int .i64 (yQ t).1,.int .i64 (yQ t).2]):=by
 rw[zg];refine qam [(0,.agg (fsT t))] func288 rfl rfl fun K hK=>(qx (gr [.d,.d,.d] (rd rfl (ql5 rfl rfl rfl) (rc rfl (rc rfl (qz (qx (qcj (qx (gr [.d,.d,.d,.d] (rd rfl (qan rfl qfG rfl (qjX _) (qjT _) rfl) (rd rfl (qak rfl rfl (by exact qgp) rfl) (rd rfl (qcs rfl rfl rfl rfl) ?_)))))))))))))
 refine rc rfl (qz ?_);rw[qyV];refine qbB 8 rfl (fun u=>?_) (fun u=>?_);have u:t.k=1:=by simpa using u
 rw[if_pos u];refine qS rfl (qx (gr [.d,.d] (rc rfl (rc rfl (qz (qbN func288 [_,_] (.cons (zd rfl (Wk.refl _)) (.cons (zd rfl (Wk.refl _)) .nil)) ?_))))));rfl;have u:¬t.k=1:=by simpa using u
 rw[if_neg u];refine qL rfl (qx (gr [.d,.d,.d,.d,.d,.d,.d,.d,.d,.d] (rd rfl (qan rfl qfG rfl (qjX _) (qjT _) rfl) (rd rfl (qak rfl rfl (by exact qgp) rfl) (rd rfl (qcs rfl rfl rfl rfl) (rf rfl ?_))))));refine qgm 16 rfl (fun c=>?_) (fun c=>?_);have c:t.k=0:=by simpa using c
 rw[if_pos c];refine rd rfl (qan rfl qlo rfl (qpT _) (qqK _) rfl) (rd rfl (qak rfl rfl (by exact qgp) rfl) (rd rfl (qsx (f:=D.int .i64) [.tmp 18] [t.i] rfl qfK rfl rfl od od (.oc rfl .nil) (fun _=>rfl) (fun _=>rfl)) (rd rfl (qcw rfl CaI.h (.cons rfl (Wk.full _) .nil) (qme [t.i])) (rd rfl (qiU rfl rfl rfl) (rc rfl (qz ?_))))));have C:[t.i].all yE=yE t.i:=by simp
 rw[C];refine qbB 12 rfl (fun e=>?_) (fun e=>?_);rw[if_pos e];refine qS rfl (qx (gr [.d,.d,.d,.d] (rd rfl (qan rfl qlo rfl (qpT _) (qqK _) rfl) (rd rfl (qak rfl rfl (by exact qgp) rfl) (rc rfl (rc rfl (qz (qbN func288 [_,_] (.cons (zd rfl (Wk.refl _)) (.cons (zd rfl (Wk.refl _)) .nil)) ?_))))))));rfl;rw[if_neg (vN.1 e)];refine qL rfl (qx (gr [.d,.d,.d,.d] (rd rfl (qan rfl qfG rfl (qjX _) (qjT _) rfl) (rd rfl (qak rfl rfl (by exact qgp) rfl) (rd rfl (qcs rfl rfl rfl rfl) (rc rfl (qz (qa7 24 true rfl (decide_eq_true c) (qS rfl (qx (gr [.d,.d] (rc rfl (rc rfl ?_)))))))))))));refine qz (qbN func288 [_,_] (.cons (zd rfl (Wk.refl _)) (.cons (zd rfl (Wk.refl _)) .nil)) ?_);rfl;have c:¬t.k=0:=by simpa using c
 rw[if_neg c];refine rh rfl (rh rfl (rh rfl (rh rfl (rd rfl (qhu rfl rfl rfl) (rc rfl (qz (qL rfl (qx (gr [.d,.d,.d,.d] (rd rfl (qan rfl qfG rfl (qjX _) (qjT _) rfl) (rd rfl (qak rfl rfl (by exact qgp) rfl) (rd rfl (qcs rfl rfl rfl rfl) (rc rfl ?_)))))))))))));refine qz (qa7 24 false rfl (decide_eq_false c) (qL rfl (qx (gr [.d,.d,.d,.d] (rd rfl (qak rfl rfl (by exact qog) (qfc t)) (rd rfl (qcw rfl CaI.h (.oc rfl .nil) (by have E:=qkY t _ rfl;rw[zg]at E;exact E)) (rd rfl (ql8 rfl rfl) (rc rfl (qz ?_)))))))));refine qbB 28 rfl (fun e=>?_) (fun e=>?_);rw[if_pos e];refine qS rfl (qx (gr [.d,.d] (rc rfl (rc rfl (qz (qbN func288 [_,_] (.cons (zd rfl (Wk.refl _)) (.cons (zd rfl (Wk.refl _)) .nil)) ?_))))));rfl;rw[if_neg (vN.1 e)];have hlen:t.ar.length=2:=by
  cases L:decide (t.ar.length=2)with
  |true=>exact of_decide_eq_true L
  |false=>rw[L,Bool.and_false,Bool.false_and]at e;cases e
 refine qL rfl (qaC (qau (qx (gr [.w] (ew rfl (qd2 rfl zvII) ?_)))));rintro _ _ ⟨l,rfl,rfl⟩;refine qz (qx (qx (gr [.d] (rf rfl (qz ?_)))));refine qf1 (fun env σ=>∃v0 v1:Int,env=[(1,.ptr (.agg (fsT t))),(4,.ref l 0 [])]∧σ=[.cell l (.agg [.int .i64 v0,.int .i64 v1])]∧zay t.ar= .inr [v0,v1]) ?_ (fun HK=>?_);rintro _ _ ⟨v0,v1,rfl,rfl,p⟩;refine qx (gr [.d,.d,.d,.r,.d,.r,.d,.d,.d,.d,.d] (rd rfl (qan rfl qlr rfl (qqw _) (qqv _) rfl) (rd rfl (qak rfl rfl (by exact qlA) rfl) (rd rfl (qsR (m:=0) rfl zcF rfl rfl od) (r_r rfl rfl rfl (qc3 rfl rfl (.head _) rfl rfl (by exact qgp) rfl) (rd rfl (qsR (m:=1) rfl zcF rfl rfl od) (r_r rfl rfl rfl (qc3 rfl rfl (.head _) rfl rfl (by exact qgp) rfl) (rd rfl (qcw rfl CaI.h (.oc rfl (.oc rfl (.oc rfl .nil))) (qyM t.s v0 v1)) (rd rfl (qec rfl rfl rfl) (rd rfl (qec rfl rfl rfl) (rc rfl (rc rfl (qz ?_)))))))))))));refine qbN func288 [_,_] (.cons (zd rfl (Wk.refl _)) (.cons (zd rfl (Wk.refl _)) .nil)) ?_;rw[p];dsimp only;rw[←qyR];rfl;refine qcS [(1,.ptr (.agg (fsT t))),(4,.ref l 0 []),(32,.int .i64 ((0:Nat):Int))] (sc rfl (sc rfl (sc rfl (Sub.nil _)))) ?_;refine qhh (fun n env σ=>∃(v0 v1:Int)(i:Nat),n=2-i∧i≤2∧env=[(1,.ptr (.agg (fsT t))),(4,.ref l 0 []),(32,.int .i64 (i:Int))]∧σ=[.cell l (.agg [.int .i64 v0,.int .i64 v1])]∧∀j,j<i→∃q,t.ar[j]? =some q∧yQ q=(if j=0 then v0 else v1,0)) 2 ⟨0,0,0,rfl,by omega,rfl,rfl,fun j O=>by omega⟩ ?_;rintro n _ _ ⟨v0,v1,i,rfl,hi,rfl,rfl,p⟩ IH;refine qx (gr [.d] (rd rfl (qcs rfl rfl rfl rfl) (qz (qx ?_))));by_cases hlt:i<2;have v:decide ((i:Int)<2)=true:=decide_eq_true oa;refine qa7 33 true rfl v (qS rfl (qaC (qx (qcj (qx (gr [.d,.d] (rf rfl (rc rfl (qz ?_)))))))));obtain⟨q,hq⟩:∃q,t.ar[i]? =some q:=⟨_,jj oa⟩
 have F:q∈t.ar:=List.mem_of_getElem? hq;refine qx (gr [.d,.d,.d,.d,.d,.d,.d,.d,.d,.d,.d] (rd rfl (qan rfl qlp rfl (qqH _) (qpV _) rfl) (rd rfl (qak rfl rfl (by exact qip) rfl) (rf rfl (rd rfl (qgj (f:=zg) t.ar rfl qil rfl (asl rfl) rfl (by rw[qfo];exact hq) qkK rfl) (rd rfl (qak rfl rfl (by exact qog) (qkK q)) (rd rfl (qcw rfl CaI.h (.oc rfl .nil) (N q F)) (rf rfl (rd rfl (qec rfl rfl rfl) (rd rfl (qec rfl rfl rfl) (rc rfl (rc rfl (qz ?_)))))))))))));refine qx (qx (gr [.d,.d] (rf rfl (rd rfl (qcs rfl rfl rfl rfl) (qz ?_)))));refine qbB 45 rfl (fun g=>?_) (fun g=>?_);have g:¬(yQ q).2=0:=by simpa using g
 refine qS rfl (qx (gr [.d,.d,.d] (rf rfl (rc rfl (rc rfl (qz (qbN func288 [_,_] (.cons (zd rfl (Wk.refl _)) (.cons (zd rfl (Wk.refl _)) .nil)) ?_)))))));have Q:zay t.ar= .inl (yQ q).2:=by
  obtain⟨x,y,z⟩:∃x y,t.ar=[x,y]:=by
   match H:t.ar,hlen with
   |[x,y],_=>exact⟨x,y,rfl⟩
  rw[z]at hq p⊢;have A:i=0∨i=1:=by omega
  rcases A with rfl|rfl
  obtain rfl:=Option.some.inj hq;rw[zay,if_pos g];obtain rfl:=Option.some.inj hq;obtain⟨I,G,B⟩:=p 0 oa;obtain rfl:=Option.some.inj G;rw[zay,if_neg (by rw[B];exact fun h=>h rfl),zay,if_pos g]
 rw[Q];rfl;have g:(yQ q).2=0:=by simpa using g
 refine qL rfl (qaC ?_);obtain⟨w1,R,S⟩:=vals2 (a:=v0) (b:=v1) hlt;refine gr [.d,.d,.d,.w] (rf rfl (rf rfl (rd rfl (qsR (m:=i) rfl zcF rfl rfl hlt) (qgd rfl rfl rfl (qnZ [] rfl rfl rfl (Wk.refl _) (List.Perm.refl _) w1 (by rw[jc,Nat.mul_one];exact R) (by exact qgp) rfl rfl rfl) (qz (qau (gr [.d,.d] (rd rfl (y4 (r:=((i+1:Nat):Int)) rfl rfl rfl (by simp[iar]) oa) (rf rfl (qz (qjd [.cell l (.agg [.int .i64 (if i=0 then(yQ q).1 else v0),.int .i64 (if i=0 then v1 else(yQ q).1)])] [] (by rw[←S];exact List.Perm.refl _) (qcS [(1,.ptr (.agg (fsT t))),(4,.ref l 0 []),(32,.int .i64 ((i+1:Nat):Int))] (sc rfl (sc rfl (sc rfl (Sub.nil _)))) ?_))))))))))));refine IH _ _ _ oa ⟨_,_,i+1,rfl,by omega,rfl,rfl,fun j O=>?_⟩;by_cases J:j=i;subst J;refine⟨q,hq,?_⟩;have A:j=0∨j=1:=by omega
 rcases A with rfl|rfl
 rw[if_pos rfl,if_pos rfl];exact Prod.ext rfl g;rw[if_neg oa,if_neg oa];exact Prod.ext rfl g;obtain⟨I,G,B⟩:=p j oa;refine⟨I,G,?_⟩;have:j=0∧i=1:=by omega
 rw[B,this.1,this.2];rfl;have v:decide ((i:Int)<2)=false:=decide_eq_false oa;refine qa7 33 false rfl v (qL rfl (qi9 rfl (qcS [(1,.ptr (.agg (fsT t))),(4,.ref l 0 [])] (sc rfl (sc rfl (Sub.nil _))) ?_)));refine HK _ _ ⟨v0,v1,rfl,rfl,?_⟩;obtain⟨x,y,z⟩:∃x y,t.ar=[x,y]:=by
  match H:t.ar,hlen with
  |[x,y],_=>exact⟨x,y,rfl⟩
 rw[z]at p⊢;obtain⟨I,G,B⟩:=p 0 oa;obtain⟨V,U,M⟩:=p 1 oa;obtain rfl:=Option.some.inj G;obtain rfl:=Option.some.inj U;rw[zay,if_neg (by rw[B];exact fun h=>h rfl),zay,if_neg (by rw[M];exact fun h=>h rfl),zay,B,M];rfl
theorem qvD:∀(n:Nat)(t:T),wt t≤n→zf prog 288 [zg t] (.tup [.int .i64 (yQ t).1,.int .i64 (yQ t).2])
 |0,t,h=>by cases t;simp only[wt]at h;omega
 |n+1,t,h=>qsj t fun q hq=>qvD n q (by have:=qDj hq;omega)
theorem qwv(t:T)(res:Int×Int)(h:qjW t=some res):zf prog 288 [zg t] (.tup [.int .i64 res.1,.int .i64 res.2]):=by
 unfold qjW at h;split at h
 obtain rfl:=Option.some.inj h;exact qvD _ t (jf _);cases h
section
variable{P:Program}{o:Oper}{ρ:Operand→Option D}
theorem qyu(v:Value)(a b:Nat):(List.replicate (a+b) v).flatMap (fun(v:Value)=>v.cells.toList)=((List.replicate a v).flatMap fun(v:Value)=>v.cells.toList)++(List.replicate b v).flatMap fun(v:Value)=>v.cells.toList:=by
 rw[←List.replicate_append_replicate,List.flatMap_append]
theorem qwG{t e:TypeId}{x y:Operand}{s by_ n c:Nat}{k Y:IntKind}{Z a2:Int}{z:D}{σ:St}(Q:o.op= .makeSlice t x y)(hE:ElT P t e s by_)(hZ:yv P e z)(j:ρ x=some (.int k Z))(R:Z=(n:Int))(hy:ρ y=some (.int Y a2))(S:a2=(c:Int))(C:n≤c)(hb:by_*c≤281474976710656)(hc:c≤9223372036854775807):
 zp P o ρ σ fun d' σ'=>∃u,d'= .vec u n∧σ'= .vec u (List.replicate n z) e s::σ:=fun K p a w hi h=>by
 obtain⟨hu,⟨N,hz,E⟩,U⟩:=hE;obtain⟨i,F,G,q,V⟩:=info_parts hz;have h1:=h x (by rw[Q];simp[Op.operands]) _ j;have h2:=h y (by rw[Q];simp[Op.operands]) _ hy;simp only[Rep]at h1 h2;subst R S;have W:(i.bytes:Int)*(c:Int)≤281474976710656:=by
  have:((i.bytes*c:Nat):Int)≤281474976710656:=by rw[V];omega
  rwa [Jy]at this
 have hr:=run_make (P:=P) w t e i N hu F G k Y (n:Int) (c:Int) oa oa W oa;simp only[jO]at hr;have H:(execOp a.eval o).run P w= .ok (.value (.slice (some ⟨w.heap.size,0,none⟩) n c)) (w.alloc (.cells (madeCells N.cells (c*i.size)) e)):=by
  unfold execOp;rw[Q];simp[h1.1,h2.1,hr]
 obtain⟨v,A,B,O,q3,q4⟩:=hZ.rep p w;rw[F]at B;simp only[Jf,Option.some.injEq]at B;rw[G]at B;injection B with B
 subst B;have I:sz z=s:=by rw[←Rep.sz O,q3,E]
 have J:∀u∈(List.replicate n A).flatMap (fun(v:Value)=>v.cells.toList),u.oneCell'=true:=fun u hu=>by
  obtain⟨v'',L,hu⟩:=JR.1 hu;rw[Jg L]at hu;exact Rep.one O q4 u hu
 have b:madeCells N.cells (c*i.size)=((List.replicate c A).flatMap fun(v:Value)=>v.cells.toList).toArray:=by
  apply jY.1;rw[q,←E,qlY _ _ oa];have:∀m,(List.replicate m N.cells).flatMap (fun z=>z.toList)=(List.replicate m A).flatMap fun(v:Value)=>v.cells.toList:=by
   intro m;induction m with
   |zero=>rfl
   |succ m ih=>simp only[vV,vl,ih,q3]
  exact this c
 have M:=qfk O n;have l:zx s (List.replicate n z):=fun d hd=>by rw[Jg hd];exact I
 have hlen:=M.len;rw[l.szs,vz]at hlen;have X:((List.replicate c A).flatMap fun(v:Value)=>v.cells.toList).length=c*s:=by
  have h9:=(qfk O c).len;have h8:zx s (List.replicate c z):=fun d hd=>by rw[Jg hd];exact I
  rw[h8.szs,vz]at h9;exact h9
 have r:((List.replicate c A).flatMap fun(v:Value)=>v.cells.toList).take (n*s)=(List.replicate n A).flatMap fun(v:Value)=>v.cells.toList:=by
  obtain⟨m,rfl⟩:∃m,c=n+m:=⟨c-n,by omega⟩
  rw[qyu,←hlen];exact vK
 have f:∀x,p x→x.block≠w.heap.size:=fun x j e=>by
  obtain⟨v,hv⟩:=hi.pub x j;have:=qfs hv;omega
 unfold Oper.wp;rw[H,b];refine⟨_,.vec (.slice (some ⟨w.heap.size,0,none⟩) n c) n,_,p,rfl,⟨_,rfl,rfl⟩,by simp only[Rep];exact⟨trivial,_,c,rfl,C,hc⟩,(hi.alloc _).more (o:=.vec (.slice (some ⟨w.heap.size,0,none⟩) n c) (List.replicate n z) e s) ⟨l,U,⟨_,⟨by rw[hlen,vz],.inr ⟨w.heap.size,c,_,by rw[vz],ju _,World.alloc_heap_new w _,by rw[vz];exact C,by unfold maxLen;exact hc,by rw[jV,X],by rw[vz];exact r⟩⟩,M.grow (qaw hi.pub _),J⟩,fun g hg x j=>?_⟩ fun x j=>?_,qaw hi.pub _⟩
 · simp only[Value.ownBlock,Option.some.injEq]at hg
   subst hg;exact f x j
 · simp only[Ob.blk,Value.ownBlock,Option.some.injEq]at j
   subst j;exact⟨.inl hi.size,fun hh=>absurd (hi.lt hh) (JI _)⟩
theorem qv8{t t' e:TypeId}{x y:Operand}{s by_ n:Nat}{u:Value}{σ:St}(τ:St){l l2:List D}{dy:D}(R:o.op= .call {callee:=.builtin .copy,args:=#[x,y],argTypes:=#[t,t']})(S:ElT P t e s by_)(hx:ρ x=some (.vec u n))(hy:ρ y=some dy)(U:AsL dy l2)(hσ:σ.Perm (.vec u l e s::τ))(d:l.length=l2.length)(E:zx s l2):
 zp P o ρ σ fun d' σ'=>d'= .int .i64 ((l2.length:Nat):Int)∧σ'= .vec u l2 e s::τ:=fun K p a w hi h=>by
 have I:=h x (by rw[R];simp[Op.operands,Call.operands]) _ hx;have h2:=U.rep (h y (by rw[R];simp[Op.operands,Call.operands]) _ hy);simp only[Rep]at I;obtain⟨I,A,c,rfl,h3,h4⟩:=I;obtain⟨A2,c2,m,k1,k2,k3,k4,k5,k6⟩:=h2;have C:=hi.perm hσ;obtain⟨i,J,L⟩:=jC.1 S.size;have V:n=l.length:=by
  obtain⟨_,_,⟨_,⟨_,h9⟩,_⟩,_⟩:=C.ok _ (je ..);rcases h9 with⟨F,e2⟩|⟨g,cap,cur,F,_⟩
  injection F;omega;injection F
 subst V;by_cases G:l2.length=0
 · have hr:(execOp a.eval o).run P w= .ok (.value (.int .i64 0)) w:=by
    have hl:∀(x:Addr),(loadCells x 0).run P w= .ok #[] w:=fun x=>by simpa using run_loadCells_list (P:=P) w x [] og
    unfold execOp;rw[R];cases A<;>cases A2<;>simp[resolve,invoke,builtin,I,k1,Builtin.copy_,run_underlying S.1,Builtin.lenOf,Builtin.firstCells,sizeOf,typeInfo,J,L,d,G,storeCells,hl,goInt]
   unfold Oper.wp;rw[hr];obtain rfl:=jG G;obtain rfl:=jG (d.trans G);exact⟨_,.int .i64 0,_,p,rfl,⟨rfl,rfl⟩,by simp only[Rep];exact⟨trivial,by decide⟩,C,zE.refl _ _⟩
 · have M:=C.ok _ (je ..)
   obtain⟨b,cap,xs,junk,F,g3,g4,g5,g6,c1,W,c3⟩:=qiB M (fun h=>by rw[h]at d;simp at d;omega);obtain⟨g1,g0,_,_⟩:=M;injection F with F _ e2
   subst F e2;have H:xs.length=l.length*s:=by rw[g3.len,g1.szs]
   have f:m.length=l2.length*s:=by rw[k5.len,E.szs]
   have hmp:0<l2.length*s:=j6 oa g0;have X:m≠[]:=fun hh=>by rw[hh]at f;simp at f;omega
   obtain⟨b2,o2,rfl,Y⟩:=k4.resolve_left X;have r:=run_loadCells_list (P:=P) w ⟨b2,o2,none⟩ m fun j v hv=>by
    rw[zan];exact(Y j v hv).2
   have N:=run_storeCells_at (P:=P) b 0 e m 0 (xs++junk).toArray w g5 (by simp;rw[H,f,d];omega) k6;have O:((xs++junk).toArray.toList.take (0+0)++m++(xs++junk).toArray.toList.drop (0+0+m.length)).toArray=(m++junk).toArray:=by
    congr 1
    have:m.length=xs.length:=by rw[H,f,d]
    simp[this]
   rw[O]at N;have hr:(execOp a.eval o).run P w= .ok (.value (.int .i64 (l2.length:Int))) (w.setRow b (m++junk).toArray):=by
    unfold execOp;rw[R];rw[f]at r;simp[resolve,invoke,builtin,I,k1,Builtin.copy_,run_underlying S.1,Builtin.lenOf,Builtin.firstCells,sizeOf,typeInfo,J,L,d,r,N,goInt]
   have z:∀q,p q→(w.setRow b (m++junk).toArray).cell? q=w.cell? q:=fun q B=>qdy (setRow_other w b _ _ (g6 q B));have gr:zE p w p (w.setRow b (m++junk).toArray):=fun q B=>⟨B,z q B⟩
   unfold Oper.wp;rw[hr];refine⟨_,.int .i64 (l2.length:Int),_,p,rfl,⟨rfl,rfl⟩,by simp only[Rep];exact⟨trivial,wrap64 oa⟩,?_,gr⟩;refine C.write (b:=b) rfl rfl gr (fun q B=>.inl B) ⟨E,g0,⟨m,⟨f,.inr ⟨b,c,_,by rw[d],ju _,setRow_heap w b _ _ _ _ g5,by omega,W,?_,?_⟩⟩,k5.grow gr,k6⟩,fun g' Q q B Z=>g6 q B (by simp only[Value.ownBlock,Option.some.injEq]at Q;exact Z.trans Q.symm)⟩ (fun q B=>?_) rfl rfl rfl og fun k hk=>setRow_other w b k _ hk
   · rw[jV,ja,f,←d,←H,←ja,c3]
   · rw[←f]
     exact vK
   · obtain⟨u,hu⟩:=hi.pub q B
     exact⟨u,by rw[z q B];exact hu⟩
end
theorem qaX{P:Program}{m:Md}{f:FuncId}{fn:Func}{K:Ctx}{R:D→St→Prop}{k:List Item}{env:Env}{σ τ:St}{e:TypeId}{s n:Nat}{u:Value}{l:List D}(t:Nat)(hs:lk env t=some (.vec u n))(W:σ.Perm (.vec u l e s::τ))(h:ze m P f fn K R k ((t,.lst l)::env) τ):ze m P f fn K R k env σ:=fun p a w hi hr O hd=>by
 have q:=hi.perm W;have z:=q.ok _ (je ..);have N:=hr t _ hs;simp only[Rep]at N;obtain⟨N,A,c,rfl,B,C⟩:=N;have Q:n=l.length:=by
  obtain⟨_,_,⟨_,⟨_,X⟩,_⟩,_⟩:=z;rcases X with⟨v,E⟩|⟨g,cap,cur,v,_⟩
  injection v;omega;injection v
 subst Q;have step:∀F,zE p w F w→Inv K F τ w→Rep F w (.lst l) (.slice A l.length c)→Rest m P f fn K R k a w:=fun F g S G=>h F a w S (fun V d' d=>by
  rw[qa5]at d;by_cases H:t=V;subst H;rw[if_pos rfl]at d;injection d with d
  subst d;rw[N];exact G;rw[if_neg H]at d;exact(hr V d' d).grow g) O hd
 by_cases I:l=[]
 subst I;refine step p (zE.refl p w) q.tail ?_;simp only[Rep];exact⟨A,c,[],rfl,B,C,.inl rfl,zj.nil _ _,by simp⟩;obtain⟨b,cap,xs,junk,v,Y,Z,g5,g6,c1,c2',c3⟩:=qiB z I;injection v with v _ E
 subst v E;have x:(Ob.vec (.slice (some ⟨b,0,none⟩) l.length c) l e s).blk=some b:=rfl;have hm:=q.mine b (qd0.2 ⟨_,je ..,x⟩);have J:=q.nd;have U:b∉yl τ:=by
  simp only[yl,vt,x,vd]at J;exact J.1
 have r:∀j u,xs[j]? =some u→w.cell? ⟨b,0+j,none⟩=some u:=fun j u hu=>by
  rw[jc,cell_of_row _ _ _ _ _ _ g5];have:=(jd.1 hu).1;simp only[vD];rw[j3 this];exact hu
 have hg:=q.tail.give (fun L=>L.block=b∧L.spot=none∧L.off<xs.length) fun L⟨v,E,e3⟩=>by
  obtain⟨b',of,sp⟩:=L;simp only at v E e3;subst v E;refine⟨⟨xs[of],?_⟩,hm,fun o' ho b' hb M=>?_⟩;have:=r of xs[of] og;simpa using this;simp only at M;subst M;exact absurd (qd0.2 ⟨o',ho,hb⟩) U
 refine step _ (qfd p _ w) hg ?_;simp only[Rep];refine⟨_,c,xs,rfl,B,C,.inr ⟨b,0,rfl,fun j u hu=>⟨.inr ⟨rfl,rfl,?_⟩,r j u hu⟩⟩,Y.grow (qfd p _ w),Z⟩;have:=(jd.1 hu).1;simp only;omega
theorem zb1:ElT prog 32 72 5 64:=.of underlying32 ob od
theorem elGo:ElT prog 26 64 3 48:=.of underlying26 ob od
theorem tyLG:Ty prog 26 false 1:=⟨⟨_,underlying26,rfl⟩,by kernel_rfl⟩
theorem tyLI:Ty prog 87 false 1:=⟨⟨_,underlying87,rfl⟩,by kernel_rfl⟩
theorem zb6:Ty prog 32 false 1:=⟨⟨_,underlying32,rfl⟩,by kernel_rfl⟩
theorem tyGo:Ty prog 64 true 3:=⟨⟨_,underlying64,rfl⟩,by kernel_rfl⟩
theorem qyv(xs:List Gl)(hlen:xs.length<1000000000)(l:Nat)(Y:Nat→St→Prop)
 (c:∀m q σ,m<xs.length→xs[m]? =some q→Y (m+1) σ→zbJ prog l [.int .i64 (m:Int),(zG) q] σ fun d σ'=>d= .bool true∧Y m σ')
 (σ0:St) (e:Y xs.length σ0):Spec prog 143 [.clo (.yield l) [] [],.ptr (.lst (xs.map (zG)))] σ0 fun _ σ=>Y 0 σ:=by
 refine qam [(0,.clo (.yield l) [] []),(1,.ptr (.lst (xs.map (zG))))] func143 rfl rfl fun K hK=>(qx (gr [.d,.d,.d,.d] (rd rfl (qak rfl rfl (by exact tyLG) rfl) (rd rfl (qfU (f:=zG) xs rfl elGo rfl (asl rfl)) (rd rfl (y4 (r:=((xs.length:Nat):Int)-1) rfl rfl rfl rfl oa) (rc rfl (qz ?_)))))))
 refine qf1 (fun env σ=>env=[]∧Y 0 σ) ?_ (fun HK=>?_)
 · rintro _ σ ⟨rfl,a⟩
   exact qxt func143 _ .nil a
 refine qcS [(0,.clo (.yield l) [] []),(1,.ptr (.lst (xs.map (zG)))),(3,.int .i64 (((xs.length:Nat):Int)-1))] (sc rfl (sc rfl (sc rfl (Sub.nil _)))) (qhh (fun n env σ=>n≤xs.length∧env=[(0,.clo (.yield l) [] []),(1,.ptr (.lst (xs.map (zG)))),(3,.int .i64 ((n:Int)-1))]∧Y n σ) xs.length ⟨jf _,rfl,e⟩ ?_);rintro n _ σ ⟨hn,rfl,a⟩ IH;refine qx (qx (gr [.d,.d] (rf rfl (rd rfl (qcs rfl rfl rfl rfl) (qz ?_)))));cases n with
 |zero=>
  refine qa7 8 false rfl od (qL rfl (qi9 rfl (qcS [] (Sub.nil _) ?_)));exact HK _ _ ⟨rfl,a⟩
 |succ m=>
  refine qvb 3 (d':=.int .i64 (m:Int)) rfl (by congr 1;omega) (qa7 8 true rfl (decide_eq_true oa) (qS rfl (qaC ?_)));obtain⟨q,hq⟩:∃q,xs[m]? =some q:=⟨_,jj oa⟩
  refine qx (qcj (qx (gr [.d,.d,.d,.d,.d,.d,.w,.d] (rf rfl (rf rfl (rd rfl (qak rfl rfl (by exact tyLG) rfl) (rf rfl (rd rfl (qgj (f:=zG) xs rfl elGo rfl (asl rfl) rfl (by rw[qfo];exact hq) qnx rfl) (rd rfl (qak rfl rfl (by exact tyGo) (qnx _)) (r_y rfl rfl rfl (qtr (σ1:=σ) [] rfl rfl (.oc rfl (.oc rfl .nil)) og (c m q σ oa hq a)) ?_))))))))));rintro _ _ ⟨σ2,⟨rfl,b⟩,rfl⟩;rw[jv];refine rd rfl (ql8 rfl rfl) (qz (qL rfl (qaC (qau (gr [.d,.d,.d] (rf rfl (rd rfl (y4 (r:=(m:Int)-1) rfl rfl rfl rfl oa) (rc rfl (qz (qcS [(0,.clo (.yield l) [] []),(1,.ptr (.lst (xs.map (zG)))),(3,.int .i64 ((m:Int)-1))] (sc rfl (sc rfl (sc rfl (Sub.nil _)))) ?_))))))))));exact IH m _ _ oa ⟨by omega,rfl,b⟩
theorem qxL(xs:List Gl):zf prog 78 [.lst (xs.map (zG))] (.clo (.func 143) [] [.ptr (.lst (xs.map (zG)))]):=by
 refine qam [(0,.lst (xs.map (zG)))] func78 rfl rfl fun K hK=>(qx (gr [.d,.d] (rd rfl (ql5 rfl rfl rfl) (rc rfl (qz (qx (gr [.d,.d] (rd rfl (qfW rfl rfl rfl) (rc rfl (qz (qbN func78 _ (.cons (zd rfl (Wk.refl _)) .nil) ?_)))))))))))
 rfl
theorem qyE(xs:List Int)(hlen:xs.length<1000000000)(l:Nat)(Y:Nat→St→Prop)
 (c:∀m q σ,m<xs.length→xs[m]? =some q→Y (m+1) σ→zbJ prog l [.int .i64 (m:Int),(D.int .i64) q] σ fun d σ'=>d= .bool true∧Y m σ')
 (σ0:St) (e:Y xs.length σ0):Spec prog 316 [.clo (.yield l) [] [],.ptr (.lst (xs.map (D.int .i64)))] σ0 fun _ σ=>Y 0 σ:=by
 refine qam [(0,.clo (.yield l) [] []),(1,.ptr (.lst (xs.map (D.int .i64))))] func316 rfl rfl fun K hK=>(qx (gr [.d,.d,.d,.d] (rd rfl (qak rfl rfl (by exact tyLI) rfl) (rd rfl (qfU (f:=D.int .i64) xs rfl qfK rfl (asl rfl)) (rd rfl (y4 (r:=((xs.length:Nat):Int)-1) rfl rfl rfl rfl oa) (rc rfl (qz ?_)))))))
 refine qf1 (fun env σ=>env=[]∧Y 0 σ) ?_ (fun HK=>?_)
 · rintro _ σ ⟨rfl,a⟩
   exact qxt func316 _ .nil a
 refine qcS [(0,.clo (.yield l) [] []),(1,.ptr (.lst (xs.map (D.int .i64)))),(3,.int .i64 (((xs.length:Nat):Int)-1))] (sc rfl (sc rfl (sc rfl (Sub.nil _)))) (qhh (fun n env σ=>n≤xs.length∧env=[(0,.clo (.yield l) [] []),(1,.ptr (.lst (xs.map (D.int .i64)))),(3,.int .i64 ((n:Int)-1))]∧Y n σ) xs.length ⟨jf _,rfl,e⟩ ?_);rintro n _ σ ⟨hn,rfl,a⟩ IH;refine qx (qx (gr [.d,.d] (rf rfl (rd rfl (qcs rfl rfl rfl rfl) (qz ?_)))));cases n with
 |zero=>
  refine qa7 8 false rfl od (qL rfl (qi9 rfl (qcS [] (Sub.nil _) ?_)));exact HK _ _ ⟨rfl,a⟩
 |succ m=>
  refine qvb 3 (d':=.int .i64 (m:Int)) rfl (by congr 1;omega) (qa7 8 true rfl (decide_eq_true oa) (qS rfl (qaC ?_)));obtain⟨q,hq⟩:∃q,xs[m]? =some q:=⟨_,jj oa⟩
  refine qx (qcj (qx (gr [.d,.d,.d,.d,.d,.d,.w,.d] (rf rfl (rf rfl (rd rfl (qak rfl rfl (by exact tyLI) rfl) (rf rfl (rd rfl (qgj (f:=D.int .i64) xs rfl qfK rfl (asl rfl) rfl (by rw[qfo];exact hq) (fun _=>rfl) rfl) (rd rfl (qak rfl rfl (by exact qgp) ((fun _=>rfl) _)) (r_y rfl rfl rfl (qtr (σ1:=σ) [] rfl rfl (.oc rfl (.oc rfl .nil)) og (c m q σ oa hq a)) ?_))))))))));rintro _ _ ⟨σ2,⟨rfl,b⟩,rfl⟩;rw[jv];refine rd rfl (ql8 rfl rfl) (qz (qL rfl (qaC (qau (gr [.d,.d,.d] (rf rfl (rd rfl (y4 (r:=(m:Int)-1) rfl rfl rfl rfl oa) (rc rfl (qz (qcS [(0,.clo (.yield l) [] []),(1,.ptr (.lst (xs.map (D.int .i64)))),(3,.int .i64 ((m:Int)-1))] (sc rfl (sc rfl (sc rfl (Sub.nil _)))) ?_))))))))));exact IH m _ _ oa ⟨by omega,rfl,b⟩
theorem qx7(xs:List Int):zf prog 292 [.lst (xs.map (D.int .i64))] (.clo (.func 316) [] [.ptr (.lst (xs.map (D.int .i64)))]):=by
 refine qam [(0,.lst (xs.map (D.int .i64)))] func292 rfl rfl fun K hK=>(qx (gr [.d,.d] (rd rfl (ql5 rfl rfl rfl) (rc rfl (qz (qx (gr [.d,.d] (rd rfl (qfW rfl rfl rfl) (rc rfl (qz (qbN func292 _ (.cons (zd rfl (Wk.refl _)) .nil) ?_)))))))))))
 rfl
theorem zvLF:yv prog 32 (.lst []):=ZvI.h
def frG(x:Gl):qB:=⟨x,0,0⟩
theorem qt0{α β:Type}(f:α→β){l:List α}{m:Nat}{q:α}(h:l[m]? =some q):(l.drop m).reverse.map f=(l.drop (m+1)).reverse.map f++[f q]:=by
 obtain⟨hm,rfl⟩:=jd.1 h;rw[vX hm,List.reverse_cons,jJ];rfl
def PuS(a:Nat)(s:List qB)(g:List Gl)(n:Nat)(σ:St):Prop:=∃(u:Value)(L:List qB),L=s++(g.drop n).reverse.map frG∧σ=[.cell a (.vec u L.length),.vec u (L.map qG) 72 5]
theorem qxb(s:List qB)(g:List Gl)(res:List qB)(h:qgA s g=some res):zf prog 19 [.lst (s.map qG),.lst (g.map zG)] (.lst (res.map qG)):=by
 unfold qgA at h;obtain⟨hl,rfl⟩:s.length+g.length<1000000000∧s++g.reverse.map frG=res:=by
  split at h
  rename_i hl;exact⟨hl,Option.some.inj h⟩
  cases h
 refine qam [(0,.lst (s.map qG)),(1,.lst (g.map zG))] func19 rfl rfl fun K hK=>(qx (gr [.d] (rc rfl (qz (qx (gr [.d,.d,.d,.d,.d,.d,.d,.w,.w,.w] (rf rfl (rd rfl (qfU (f:=qG) s rfl zb1 rfl (asl rfl)) (rf rfl (rd rfl (qfU (f:=qG) s rfl zb1 rfl (asl rfl)) (rf rfl (rd rfl (qfU (f:=zG) g rfl elGo rfl (asl rfl)) (rd rfl (y4 (r:=((s.length+g.length:Nat):Int)) rfl rfl rfl (by simp[iar]) oa) ?_)))))))))))))
 refine ew rfl (qwG (n:=s.length) (c:=s.length+g.length) rfl zb1 (ZvI.h) rfl rfl rfl rfl oa oa oa) ?_;rintro _ _ ⟨b,rfl,rfl⟩;refine ew rfl (qd2 rfl zvLF) ?_;rintro _ _ ⟨a,rfl,rfl⟩;refine qgd rfl rfl rfl (qb0 _ rfl rfl rfl (Wk.refl _) (pf0 _) (by exact zb6) rfl rfl rfl) (qz (qx (gr [.r,.d,.w] (r_r rfl rfl rfl (qc3 rfl rfl (.head _) rfl rfl (by exact zb6) rfl) (rf rfl (ew rfl (qv8 [.cell a (.vec b s.length)] rfl zb1 rfl rfl (asl rfl) (List.Perm.swap _ _ _) og (zaQ qeI)) ?_))))));rintro _ _ ⟨rfl,rfl⟩;refine qz (qx (qx (gr [.d,.d] (rf rfl (rd rfl (qcw rfl CaI.h (.oc rfl .nil) (qxL g)) (qz (qcj (qcS [(5,.ref a 0 []),(20,.clo (.func 143) [] [.ptr (.lst (g.map zG))])] (sc rfl (sc rfl (Sub.nil _))) ?_))))))));refine qiT (fun j σ=>j=none∧PuS a s g 0 σ) (σ1:=[.cell a (.vec b s.length),.vec b (s.map qG) 72 5]) [] rfl rfl CaI.h (List.Perm.swap _ _ _) (fun l D tmps p=>?_) ?_;refine zau (qyv g oa l (fun n σ=>∃σ1,σ= .loop l [(5,.ref a 0 []),(20,.clo (.func 143) [] [.ptr (.lst (g.map zG))])] (zbf 19 tmps _ _ _ D)::σ1∧PuS a s g n σ1) (fun m q σ hm hq x=>?_) _ ⟨_,rfl,b,s,by simp,rfl⟩) ?_;obtain⟨σ1,rfl,u,L,e,rfl⟩:=x;refine qqP rfl func19 p ob fun K hK=>(qcS [(22,zG q),(5,.ref a 0 [])] (sc rfl (sc rfl (Sub.nil _))) (qgw ob [(0,.w),(1,.w)] rfl (ew rfl (qd2 rfl (z:=.agg [.int .i64 0,.str ⟨#[]⟩,.lst []]) ZvI.h) ?_)))
 rintro _ _ ⟨A,rfl,rfl⟩;refine qgd rfl rfl rfl (qb0 _ rfl rfl rfl (Wk.refl _) (pf0 _) (by exact tyGo) (qnx _) rfl rfl) (qz (qfL 7 A rfl (pf0 _) ?_));refine qpJ rfl (pf0 _) ?_;refine qcj ?_;have B:L.length=s.length+(g.length-(m+1)):=by rw[e];simp
 obtain⟨l2,t,v⟩:∃l2,appO 64 L [frG q]=some l2∧l2=L++[frG q]:=⟨_,by unfold appO;exact if_pos ⟨by simp;omega,by simp;omega⟩,rfl⟩
 refine qgw ob [(0,.r),(1,.d),(2,.d),(3,.d),(4,.w),(5,.w)] rfl (r_r rfl rfl rfl (qc3 rfl rfl (.tail _ (.head _)) rfl rfl (by exact zb6) rfl) (rd rfl (qak rfl rfl (by exact tyGo) (qnx _)) (rd rfl (qgS rfl BtI.h (.oc rfl .nil) (.cons rfl rfl rfl (.nil _))) (rd rfl (qsx (f:=qG) [.tmp 25] [frG q] rfl zb1 rfl rfl od od (.oc rfl .nil) qeI (fun _=>rfl)) (ew rfl (qqj (f:=qG) (by_:=64) (r:=l2) L [frG q] rfl zb1 rfl rfl (asl rfl) (zN _ _ _) qeI (by exact t)) ?_)))));rintro _ _ ⟨u2,rfl,rfl⟩;refine qgd rfl rfl rfl (qb0 _ rfl rfl rfl (Wk.refl _) (zN _ _ _) (by exact zb6) rfl rfl rfl) (qz (qau ?_));refine qoQ (zN _ _ _) ⟨rfl,_,rfl,u2,l2,?_,rfl⟩;rw[v,e,qt0 frG hq,jo];rintro _ σ ⟨σ1,rfl,C⟩;exact⟨.ready,none,σ1,by simp,rfl,rfl,C⟩;rintro D jump σ1 ⟨rfl,u,L,e,rfl⟩;refine qau (qx (qgw ob [(0,.r),(1,.d)] rfl (r_r rfl rfl rfl (qc3 rfl rfl (.tail _ (.head _)) rfl rfl (by exact zb6) rfl) (rc rfl (qz (qaX 4 rfl (zN _ _ _) ?_))))));refine qxS (ms:=[D]) _ (pf0 _) (.cons (zd rfl (Wk.refl _)) .nil) ?_;rw[e];rfl
def frI(i:Int):qB:=⟨⟨0,⟨#[]⟩,[]⟩,i,-1⟩
def FrS(a:Nat)(g:List Int)(n:Nat)(σ:St):Prop:=∃(u:Value)(L:List qB),L=(g.drop n).reverse.map frI∧σ=[.cell a (.own u (L.map qG)),.row u L.length 72 5]
theorem qwa(g:List Int)(res:List qB)(h:qlE g=some res):zf prog 254 [.lst (g.map (D.int .i64))] (.lst (res.map qG)):=by
 unfold qlE at h;obtain⟨hl,rfl⟩:g.length<1000000000∧g.reverse.map frI=res:=by
  split at h
  rename_i hl;exact⟨hl,Option.some.inj h⟩
  cases h
 refine qam [(0,.lst (g.map (D.int .i64)))] func254 rfl rfl fun K hK=>(qx (gr [.d] (rc rfl (qz (qx (gr [.d,.d,.w,.w,.w] (rf rfl (rd rfl (qfU (f:=D.int .i64) g rfl qfK rfl (asl rfl)) (ew rfl (qww (c:=g.length) rfl zb1 rfl rfl rfl oa oa) ?_)))))))))
 rintro _ _ ⟨e,rfl,rfl⟩;refine ew rfl (qd2 rfl zvLF) ?_;rintro _ _ ⟨a,rfl,rfl⟩;refine qgd rfl rfl rfl (qb0 _ rfl rfl rfl (Wk.refl _) (pf0 _) (by exact zb6) rfl rfl rfl) (qz (qx (qx (gr [.d,.d] (rf rfl (rd rfl (qcw rfl CaI.h (.oc rfl .nil) (qx7 g)) (qz (qcj (qcS [(3,.ref a 0 []),(10,.clo (.func 316) [] [.ptr (.lst (g.map (D.int .i64)))])] (sc rfl (sc rfl (Sub.nil _))) ?_)))))))));refine qiT (fun j σ=>j=none∧FrS a g 0 σ) (σ1:=[.cell a (.own e []),.row e 0 72 5]) [] rfl rfl CaI.h (List.Perm.refl _) (fun l x tmps p=>?_) ?_;refine zau (qyE g oa l (fun n σ=>∃σ1,σ= .loop l [(3,.ref a 0 []),(10,.clo (.func 316) [] [.ptr (.lst (g.map (D.int .i64)))])] (zbf 254 tmps _ _ _ x)::σ1∧FrS a g n σ1) (fun m q σ hm hq z=>?_) _ ⟨_,rfl,e,[],by simp,rfl⟩) ?_;obtain⟨σ1,rfl,u,L,b,rfl⟩:=z;refine qqP rfl func254 p ob fun K hK=>(qcS [(12,.int .i64 q),(3,.ref a 0 [])] (sc rfl (sc rfl (Sub.nil _))) (qgw ob [(0,.d)] rfl (rc rfl (qz ?_))))
 refine qpJ rfl (pf0 _) ?_;refine qcj ?_;have A:L.length=g.length-(m+1):=by rw[b];simp
 obtain⟨l2,t,v⟩:∃l2,appO 64 L [frI q]=some l2∧l2=L++[frI q]:=⟨_,by unfold appO;exact if_pos ⟨by simp;omega,by simp;omega⟩,rfl⟩
 refine qgw ob [(0,.r),(1,.d),(2,.d),(3,.d),(4,.w),(5,.w)] rfl (r_r rfl rfl rfl (qc3 rfl rfl (.tail _ (.head _)) rfl rfl (by exact zb6) rfl) (rf rfl (rd rfl (qgS rfl BtI.h (.oc rfl (.oc rfl .nil)) (.cons rfl rfl rfl (.cons rfl rfl rfl (.nil _)))) (rd rfl (qsx (f:=qG) [.tmp 15] [frI q] rfl zb1 rfl rfl od od (.oc rfl .nil) qeI (fun _=>rfl)) (ew rfl (qlj (f:=qG) (by_:=64) (r:=l2) L [frI q] rfl zb1 rfl rfl (asl rfl) (zN _ _ _) rfl qeI (by exact t)) ?_)))));rintro _ _ ⟨u2,rfl,rfl⟩;refine qgd rfl rfl rfl (qb0 _ rfl rfl rfl (Wk.refl _) (zN _ _ _) (by exact zb6) rfl rfl rfl) (qz (qau ?_));refine qoQ (zN _ _ _) ⟨rfl,_,rfl,u2,l2,?_,rfl⟩;rw[v,b,qt0 frI hq];rintro _ σ ⟨σ1,rfl,B⟩;exact⟨.ready,none,σ1,by simp,rfl,rfl,B⟩;rintro D jump σ1 ⟨rfl,u,L,b,rfl⟩;refine qau (qx (qgw ob [(0,.r),(1,.d)] rfl (r_r rfl rfl rfl (qc3 rfl rfl (.tail _ (.head _)) rfl rfl (by exact zb6) rfl) (rc rfl (qz ?_)))));refine qxS (ms:=[D]) _ (pf0 _) (.cons (zd rfl (Wk.own _ _)) .nil) ?_;rw[b];rfl
noncomputable section
set_option synthInstance.checkSynthOrder false in
instance caughtI{q:Option (Int⊕Unit)}{g:FuncId}{cs:List D}[a:Cx prog g q cs (fun _=>D.tup []) (fun c=>.ifc 282 (.agg [.int .i64 c]))][b:CaI prog g]:Cb prog 160 q [.clo (.func g) [] cs] (fun r=>.int .i64 (zae r)):=⟨fun r h=>qq8 rfl b.h (a.h r h)⟩
def qlP:Option Unit:=some ()
def qga(l:List (Int×Int)):Option (List Int):=if l.length<1000000000∧(l.map (·.1)).Nodup then some ((l.map (·.1)).mergeSort (fun a b=>decide (a≤b)))else none
end
noncomputable section
instance(a0:T):Cb prog 51 (qeM a0) [zg a0] (fun res=>.bool res):=⟨qqp a0⟩
instance(a0:T):Cb prog 152 (qeM a0) [zg a0] (fun res=>.bool res):=⟨qie a0⟩
instance(a0:T)(a:T):Cb prog 326 (qgQ a0 a) [zg a0,zg a] (fun res=>.bool res):=⟨qsb a0 a⟩
instance(a0:T)(a:T):Cb prog 140 (qgQ a0 a) [zg a0,zg a] (fun res=>.bool res):=⟨qiz a0 a⟩
instance(a0:At):Cb prog 125 (qdY a0) [zK a0] (fun res=>.bool res):=⟨qmj a0⟩
instance(a0:At):Cb prog 149 (qdY a0) [zK a0] (fun res=>.bool res):=⟨qgC a0⟩
instance(a0:Gl):Cb prog 172 (qef a0) [zG a0] (fun res=>.bool res):=⟨qmd a0⟩
instance(a0:Gl):Cb prog 91 (qef a0) [zG a0] (fun res=>.bool res):=⟨qgF a0⟩
instance(a0:At)(a:At):Cb prog 139 (ql6 a0 a) [zK a0,zK a] (fun res=>.bool res):=⟨qgX a0 a⟩
instance(a0:Gl)(a:Gl):Cb prog 305 (qiP a0 a) [zG a0,zG a] (fun res=>.bool res):=⟨qmA a0 a⟩
instance(a0:Gl)(a:Gl):Cb prog 138 (qiP a0 a) [zG a0,zG a] (fun res=>.bool res):=⟨qgU a0 a⟩
instance(a0:ByteArray):Cb prog 163 (qm3 a0) [.str a0] (fun res=>.bool res):=⟨qpI a0⟩
instance(a0:ByteArray):Cb prog 79 (qlJ a0) [.str a0] (fun res=>.bool res):=⟨qhV a0⟩
instance(a0:At):Cb prog 178 (qjG a0) [zK a0] (fun res=>.lst (res.map (D.int .i64))):=⟨qje a0⟩
instance(a0:Gl):Cb prog 174 (qpy a0) [zG a0] (fun res=>.lst (res.map (D.int .i64))):=⟨qmv a0⟩
instance(a0:T):Cb prog 165 (qqe a0) [zg a0] (fun res=>.lst (res.map (D.int .i64))):=⟨qrz a0⟩
instance(a0:T):Cb prog 325 (qjD a0) [zg a0] (fun res=>.bool res):=⟨qoP a0⟩
instance(a0:ByteArray):Cb prog 207 (qwp a0) [.str a0] (fun res=>.bool res):=⟨qmF a0⟩
instance(a0:T):Cb prog 77 (qsM a0) [zg a0] (fun res=>.int .i64 res):=⟨qiZ a0⟩
instance(a0:List Int)(a:Int):Cb prog 123 (qgR a0 a) [.lst (a0.map (D.int .u8)),.int .i64 a] (fun res=>.lst (res.map (D.int .u8))):=⟨qn5 a0 a⟩
instance(a0:List Int)(a:ByteArray):Cb prog 135 (qgI a0 a) [.lst (a0.map (D.int .u8)),.str a] (fun res=>.lst (res.map (D.int .u8))):=⟨qmN a0 a⟩
instance(a0:List Int)(a:Bool):Cb prog 56 (qgH a0 a) [.lst (a0.map (D.int .u8)),.bool a] (fun res=>.lst (res.map (D.int .u8))):=⟨qmH a0 a⟩
instance(a0:List Int)(a:Int)(b:Int)(a3:Int):Cb prog 117 (qqY a0 a b a3) [.lst (a0.map (D.int .u8)),.int .i64 a,.int .i64 b,.int .i64 a3] (fun res=>.tup [.int .i64 res.1,.int .i64 res.2.1,.int .i64 res.2.2]):=⟨qq4 a0 a b a3⟩
instance(a0:List Int)(a:Int)(b:Int):Cb prog 132 (qny a0 a b) [.lst (a0.map (D.int .u8)),.int .i64 a,.int .i64 b] (fun res=>.tup [.str res.1,.int .i64 res.2.1,.int .i64 res.2.2]):=⟨qqy a0 a b⟩
instance(a0:qf):Cb prog 97 (qk0 a0) [qj a0] (fun res=>.lst (res.map qE)):=⟨qvQ a0⟩
instance(a0:qf)(a:ByteArray)(b:Int):Cb prog 109 (qnB a0 a b) [qj a0,.str a,.int .i64 b] (fun res=>.lst (res.map qE)):=⟨qxJ a0 a b⟩
instance(a0:List qB)(a:List Gl):Cb prog 19 (qgA a0 a) [.lst (a0.map qG),.lst (a.map zG)] (fun res=>.lst (res.map qG)):=⟨qxb a0 a⟩
instance(a0:List Int):Cb prog 254 (qlE a0) [.lst (a0.map (D.int .i64))] (fun res=>.lst (res.map qG)):=⟨qwa a0⟩
instance(a0:T):Cb prog 313 (qmk a0) [zg a0] (fun res=>.bool res):=⟨qkY a0⟩
instance(a0:T):Cb prog 288 (qjW a0) [zg a0] (fun res=>.tup [.int .i64 res.1,.int .i64 res.2]):=⟨qwv a0⟩
def qbf(c:Int)(b:Int)(a:qc):Option (Int⊕(qc)):=bif(b !=(0:Int))then some (.inl b)else some (.inr ((⟨a.f0_b,c⟩:qc)))
instance(b:Int)(e:Int)(a:qc):Cox prog 118 (qbf b e a) (fun(nm:Nat)=>⟨[.ref nm 0 [],.int .i64 b,.int .i64 e],[.cell nm (qg a)],fun r d σ=>d= .tup []∧σ=[.cell nm (qg r)],fun c=>.ifc 189 (.agg [.int .i64 c])⟩):=kP (fun _=>{}) func118 rfl (by unfold qbf;exact wP)
def ql(c:Int)(d:Int)(a:qc):Option (Int⊕(Int×qc)):=(qqY a.f0_b a.f1_at c d).bind fun b=>bindX (qbf b.2.1 b.2.2 a) fun e=>some (.inr (b.1,e))
def qgi(a:Nat):Tb:={rg:=[(1,[(0,0),(1,0),(2,0),(3,2),(4,0),(5,0),(6,0),(7,2),(8,0),(9,0),(10,0),(11,0),(12,0),(13,0),(14,0),(15,0),(16,0),(17,0)])]}
theorem qaP(e:Int)(f:Int)(b:qc)(a:Nat)(res:Int⊕(Int×qc))(hr:ql e f b=some res):yX prog 37 [.ref a 0 [],.int .i64 e,.int .i64 f] [.cell a (qg b)] (fun d σ=>∃r:Int×qc,res= .inr r∧d= .int .i64 r.1∧σ=[.cell a (qg r.2)]) (fun d=>∃c,res= .inl c∧d= .ifc 189 (.agg [.int .i64 c])):=by
 unfold ql at hr;refine qgO (qgi a) func37 rfl fun K hK hX hF=>?_;exact wk
instance(b:Int)(e:Int)(a:qc):Cox prog 37 (ql b e a) (fun(nm:Nat)=>⟨[.ref nm 0 [],.int .i64 b,.int .i64 e],[.cell nm (qg a)],fun r d σ=>d= .int .i64 r.1∧σ=[.cell nm (qg r.2)],fun c=>.ifc 189 (.agg [.int .i64 c])⟩):=⟨fun nm=>qaP b e a nm⟩
def qN(a:qc):Option (Int⊕(ByteArray×qc)):=(qny a.f0_b a.f1_at 40).bind fun b=>bindX (qbf b.2.1 b.2.2 a) fun c=>some (.inr (b.1,c))
def qg5(a:Nat):Tb:={rg:=[(1,[(0,0),(1,0),(2,0),(3,2),(4,0),(5,0),(6,0),(7,2),(8,0),(9,0),(10,0),(11,0),(12,0),(13,0),(14,0),(15,0)])]}
instance(a:qc):Cox prog 62 (qN a) (fun(nm:Nat)=>⟨[.ref nm 0 []],[.cell nm (qg a)],fun r d σ=>d= .str r.1∧σ=[.cell nm (qg r.2)],fun c=>.ifc 189 (.agg [.int .i64 c])⟩):=kP qg5 func62 rfl (by unfold qN;exact wP)
def qbz(a:qc):Option (Int⊕(S_api_Decl×qc)):=bindX (qN a) fun b=>bindX (ql 0 6 b.2) fun c=>some (.inr ((⟨b.1,c.1⟩:S_api_Decl),c.2))
instance(a:qc):Cox prog 61 (qbz a) (fun(nm:Nat)=>⟨[.ptr (.ref nm 0 [])],[.cell nm (qg a)],fun r d σ=>d=qH r.1∧σ=[.cell nm (qg r.2)],fun c=>.ifc 189 (.agg [.int .i64 c])⟩):=kP (fun _=>{}) func61 rfl (by unfold qbz;exact wP)
instance:EF prog 79 S_api_Decl qH 2:=⟨qqL,fun _=>rfl⟩
def qet(g:Int)(a:qc):Option (Int⊕((List S_api_Decl)×qc)):=bindX (ql 0 g a) fun e=>forC (β:=(List S_api_Decl)×qc) (fun _(b,c) d=>bindX (qbz c) fun f=>(appO 24 b [f.1]).bind fun h=>d (h,f.2)) (fun(b,c)=>some (.inr (b,c))) (e.1-0:Int).toNat 0 ([],e.2)
def qkv(a:Nat):Tb:={ow:=[6,7],ls:=[(0,⟨Int×((List S_api_Decl)×qc),[2,10],[11],fun s e w=>([(7,.own (oU e 7) (s.2.1.map qH)),(11,.int .i64 s.1)],[.cell a (qg s.2.2),.row (oU e 7) s.2.1.length 79 2]),[10]⟩)]}
instance(b:Int)(a:qc):Cox prog 60 (qet b a) (fun(nm:Nat)=>⟨[.ref nm 0 [],.int .i64 b,.clo (.func 61) [] [.ptr (.ref nm 0 [])]],[.cell nm (qg a)],fun r d σ=>d= .lst (r.1.map qH)∧σ=[.cell nm (qg r.2)],fun c=>.ifc 189 (.agg [.int .i64 c])⟩):=kP qkv func60 rfl (by unfold qet;exact wP)
instance:EF prog 77 T zg 4:=⟨qkK,fun _=>rfl⟩
def qP(rec:Int→qc→Option (Int⊕((List T)×qc)))(d:Int)(c:qc):Option (Int⊕(T×qc)):=bif(decide (d>(19:Int)))then some (.inl 6)else bindX (ql 0 2 c) fun a=>bif(a.1==(0:Int))then bindX (ql (-2147483648) 2147483648 a.2) fun e=>some (.inr ((T.mk a.1 e.1 ⟨#[]⟩ []),e.2)) else bif(a.1==(1:Int))then bindX (ql 0 1048576 a.2) fun f=>some (.inr ((T.mk a.1 f.1 ⟨#[]⟩ []),f.2)) else bindX (qN a.2) fun g=>bindX (rec (wr (d+(1:Int))) g.2) fun b=>some (.inr ((T.mk a.1 0 g.1 b.1),b.2))
theorem qgv(rec:Int→qc→Option (Int⊕((List T)×qc)))[IHR:∀(e:Int)(a:qc),Cox prog 119 (rec e a) (fun(nm:Nat)=>⟨[.ref nm 0 [],.int .i64 e],[.cell nm (qg a)],fun(r:(List T)×qc) d σ=>d= .lst (r.1.map zg)∧σ=[.cell nm (qg r.2)],fun c=>.ifc 189 (.agg [.int .i64 c])⟩)](e:Int)(a:qc)(b:Nat)(res:Int⊕(T×qc))(hr:qP rec e a=some res):yX prog 38 [.ref b 0 [],.int .i64 e] [.cell b (qg a)] (fun d σ=>∃r:T×qc,res= .inr r∧d=zg r.1∧σ=[.cell b (qg r.2)]) (fun d=>∃c,res= .inl c∧d= .ifc 189 (.agg [.int .i64 c])):=by
 unfold qP at hr;refine qgO {} func38 rfl fun K hK hX hF=>?_;exact wk
instance(rec:Int→qc→Option (Int⊕((List T)×qc)))[IHR:∀(b:Int)(a:qc),Cox prog 119 (rec b a) (fun(nm:Nat)=>⟨[.ref nm 0 [],.int .i64 b],[.cell nm (qg a)],fun(r:(List T)×qc) d σ=>d= .lst (r.1.map zg)∧σ=[.cell nm (qg r.2)],fun c=>.ifc 189 (.agg [.int .i64 c])⟩)](b:Int)(a:qc):Cox prog 38 (qP rec b a) (fun(nm:Nat)=>⟨[.ref nm 0 [],.int .i64 b],[.cell nm (qg a)],fun(r:T×qc) d σ=>d=zg r.1∧σ=[.cell nm (qg r.2)],fun c=>.ifc 189 (.agg [.int .i64 c])⟩):=⟨fun nm=>qgv rec b a nm⟩
def qaG(rec:Int→qc→Option (Int⊕((List T)×qc)))(a:Int)(b:qc):Option (Int⊕(T×qc)):=bindX (qP rec a b) fun c=>some (.inr (c.1,c.2))
theorem qgg(rec:Int→qc→Option (Int⊕((List T)×qc)))[IHR:∀(f:Int)(a:qc),Cox prog 119 (rec f a) (fun(nm:Nat)=>⟨[.ref nm 0 [],.int .i64 f],[.cell nm (qg a)],fun(r:(List T)×qc) d σ=>d= .lst (r.1.map zg)∧σ=[.cell nm (qg r.2)],fun c=>.ifc 189 (.agg [.int .i64 c])⟩)](b:Int)(a:qc)(e:Nat)(res:Int⊕(T×qc))(hr:qaG rec b a=some res):yX prog 205 [.ptr (.ref e 0 []),.ptr (.int .i64 b)] [.cell e (qg a)] (fun d σ=>∃r:T×qc,res= .inr r∧d=zg r.1∧σ=[.cell e (qg r.2)]) (fun d=>∃c,res= .inl c∧d= .ifc 189 (.agg [.int .i64 c])):=by
 unfold qaG at hr;refine qgO {} func205 rfl fun K hK hX hF=>?_;exact wk
instance(rec:Int→qc→Option (Int⊕((List T)×qc)))[IHR:∀(e:Int)(b:qc),Cox prog 119 (rec e b) (fun(nm:Nat)=>⟨[.ref nm 0 [],.int .i64 e],[.cell nm (qg b)],fun(r:(List T)×qc) d σ=>d= .lst (r.1.map zg)∧σ=[.cell nm (qg r.2)],fun c=>.ifc 189 (.agg [.int .i64 c])⟩)](a:Int)(b:qc):Cox prog 205 (qaG rec a b) (fun(nm:Nat)=>⟨[.ptr (.ref nm 0 []),.ptr (.int .i64 a)],[.cell nm (qg b)],fun(r:T×qc) d σ=>d=zg r.1∧σ=[.cell nm (qg r.2)],fun c=>.ifc 189 (.agg [.int .i64 c])⟩):=⟨fun nm=>qgg rec a b nm⟩
def qc7(rec:Int→qc→Option (Int⊕((List T)×qc)))(h:Int)(a:Int)(b:qc):Option (Int⊕((List T)×qc)):=bindX (ql 0 h b) fun f=>forC (β:=(List T)×qc) (fun _(c,d) e=>bindX (qaG rec a d) fun g=>(appO 56 c [g.1]).bind fun j=>e (j,g.2)) (fun(c,d)=>some (.inr (c,d))) (f.1-0:Int).toNat 0 ([],f.2)
def qkN(a:Nat):Tb:={ow:=[6,7],ls:=[(0,⟨Int×((List T)×qc),[2,10],[11],fun s e w=>([(7,.own (oU e 7) (s.2.1.map zg)),(11,.int .i64 s.1)],[.cell a (qg s.2.2),.row (oU e 7) s.2.1.length 77 4]),[10]⟩)]}
theorem qj2(rec:Int→qc→Option (Int⊕((List T)×qc)))[IHR:∀(b:Int)(g:qc),Cox prog 119 (rec b g) (fun(nm:Nat)=>⟨[.ref nm 0 [],.int .i64 b],[.cell nm (qg g)],fun(r:(List T)×qc) d σ=>d= .lst (r.1.map zg)∧σ=[.cell nm (qg r.2)],fun c=>.ifc 189 (.agg [.int .i64 c])⟩)](e:Int)(a:Int)(g:qc)(f:Nat)(res:Int⊕((List T)×qc))(hr:qc7 rec e a g=some res):yX prog 204 [.ref f 0 [],.int .i64 e,.clo (.func 205) [] [.ptr (.ref f 0 []),.ptr (.int .i64 a)]] [.cell f (qg g)] (fun d σ=>∃r:(List T)×qc,res= .inr r∧d= .lst (r.1.map zg)∧σ=[.cell f (qg r.2)]) (fun d=>∃c,res= .inl c∧d= .ifc 189 (.agg [.int .i64 c])):=by
 unfold qc7 at hr;refine qgO (qkN f) func204 rfl fun K hK hX hF=>?_;exact wk
instance(rec:Int→qc→Option (Int⊕((List T)×qc)))[IHR:∀(e:Int)(f:qc),Cox prog 119 (rec e f) (fun(nm:Nat)=>⟨[.ref nm 0 [],.int .i64 e],[.cell nm (qg f)],fun(r:(List T)×qc) d σ=>d= .lst (r.1.map zg)∧σ=[.cell nm (qg r.2)],fun c=>.ifc 189 (.agg [.int .i64 c])⟩)](b:Int)(a:Int)(f:qc):Cox prog 204 (qc7 rec b a f) (fun(nm:Nat)=>⟨[.ref nm 0 [],.int .i64 b,.clo (.func 205) [] [.ptr (.ref nm 0 []),.ptr (.int .i64 a)]],[.cell nm (qg f)],fun(r:(List T)×qc) d σ=>d= .lst (r.1.map zg)∧σ=[.cell nm (qg r.2)],fun c=>.ifc 189 (.agg [.int .i64 c])⟩):=⟨fun nm=>qj2 rec b a f nm⟩
def qJ:Nat→Int→qc→Option (Int⊕((List T)×qc)) |0,_,_=>none |fuel+1,c,a=>(fun(rec:Int→qc→Option (Int⊕((List T)×qc)))=>bindX (qc7 rec 6 c a) fun b=>some (.inr (b.1,b.2))) (qJ fuel)
instance kr_Psnapshot_reader_args_s1:∀(fuel:Nat)(b:Int)(a:qc),Cox prog 119 (qJ fuel b a) (fun(nm:Nat)=>⟨[.ref nm 0 [],.int .i64 b],[.cell nm (qg a)],fun r d σ=>d= .lst (r.1.map zg)∧σ=[.cell nm (qg r.2)],fun c=>.ifc 189 (.agg [.int .i64 c])⟩)
 |0,_,_=>⟨fun _ _ h=>by cases h⟩
 |fuel+1,_,_=>by
  have IHR:=kr_Psnapshot_reader_args_s1 fuel;exact kP (fun _=>{}) func119 rfl (by unfold qJ;exact wP)
def qdq(fuel:Nat)(b:Int)(a:qc):Option (Int⊕(T×qc)):=qP (qJ fuel) b a
instance(fuel:Nat)(b:Int)(a:qc):Cox prog 38 (qdq fuel b a) (fun(nm:Nat)=>⟨[.ref nm 0 [],.int .i64 b],[.cell nm (qg a)],fun(r:T×qc) d σ=>d=zg r.1∧σ=[.cell nm (qg r.2)],fun c=>.ifc 189 (.agg [.int .i64 c])⟩):=inferInstanceAs (Cox prog 38 (qP (qJ fuel) b a) (fun(nm:Nat)=>⟨[.ref nm 0 [],.int .i64 b],[.cell nm (qg a)],fun(r:T×qc) d σ=>d=zg r.1∧σ=[.cell nm (qg r.2)],fun c=>.ifc 189 (.agg [.int .i64 c])⟩))
def qaA(fuel:Nat)(a:qc):Option (Int⊕(At×qc)):=bindX (qN a) fun b=>bindX (qJ fuel 0 b.2) fun c=>some (.inr ((⟨b.1,c.1⟩:At),c.2))
instance(fuel:Nat)(a:qc):Cox prog 116 (qaA fuel a) (fun(nm:Nat)=>⟨[.ref nm 0 []],[.cell nm (qg a)],fun r d σ=>d=zK r.1∧σ=[.cell nm (qg r.2)],fun c=>.ifc 189 (.agg [.int .i64 c])⟩):=kP (fun _=>{}) func116 rfl (by unfold qaA;exact wP)
instance:EF prog 81 At zK 2:=⟨qn7,fun _=>rfl⟩
def qdI(fuel:Nat)(g:Int)(a:qc):Option (Int⊕((List At)×qc)):=bindX (ql 0 g a) fun e=>forC (β:=(List At)×qc) (fun _(b,c) d=>bindX (qaA fuel c) fun f=>(appO 40 b [f.1]).bind fun h=>d (h,f.2)) (fun(b,c)=>some (.inr (b,c))) (e.1-0:Int).toNat 0 ([],e.2)
def qkD(a:Nat):Tb:={ow:=[6,7],ls:=[(0,⟨Int×((List At)×qc),[2,10],[11],fun s e w=>([(7,.own (oU e 7) (s.2.1.map zK)),(11,.int .i64 s.1)],[.cell a (qg s.2.2),.row (oU e 7) s.2.1.length 81 2]),[10]⟩)]}
instance(fuel:Nat)(b:Int)(a:qc):Cox prog 133 (qdI fuel b a) (fun(nm:Nat)=>⟨[.ref nm 0 [],.int .i64 b,.clo (.func 116) [.ref nm 0 []] []],[.cell nm (qg a)],fun r d σ=>d= .lst (r.1.map zK)∧σ=[.cell nm (qg r.2)],fun c=>.ifc 189 (.agg [.int .i64 c])⟩):=kP qkD func133 rfl (by unfold qdI;exact wP)
def qaz(fuel:Nat)(a:qc):Option (Int⊕(Gl×qc)):=bindX (ql 0 12 a) fun b=>bindX (qN b.2) fun c=>bindX (qJ fuel 0 c.2) fun d=>some (.inr ((⟨b.1,c.1,d.1⟩:Gl),d.2))
instance(fuel:Nat)(a:qc):Cox prog 115 (qaz fuel a) (fun(nm:Nat)=>⟨[.ref nm 0 []],[.cell nm (qg a)],fun r d σ=>d=zG r.1∧σ=[.cell nm (qg r.2)],fun c=>.ifc 189 (.agg [.int .i64 c])⟩):=kP (fun _=>{}) func115 rfl (by unfold qaz;exact wP)
instance:EF prog 64 Gl zG 3:=⟨qnx,fun _=>rfl⟩
def qdM(fuel:Nat)(g:Int)(a:qc):Option (Int⊕((List Gl)×qc)):=bindX (ql 0 g a) fun e=>forC (β:=(List Gl)×qc) (fun _(b,c) d=>bindX (qaz fuel c) fun f=>(appO 48 b [f.1]).bind fun h=>d (h,f.2)) (fun(b,c)=>some (.inr (b,c))) (e.1-0:Int).toNat 0 ([],e.2)
def qky(a:Nat):Tb:={ow:=[6,7],ls:=[(0,⟨Int×((List Gl)×qc),[2,10],[11],fun s e w=>([(7,.own (oU e 7) (s.2.1.map zG)),(11,.int .i64 s.1)],[.cell a (qg s.2.2),.row (oU e 7) s.2.1.length 64 3]),[10]⟩)]}
instance(fuel:Nat)(b:Int)(a:qc):Cox prog 134 (qdM fuel b a) (fun(nm:Nat)=>⟨[.ref nm 0 [],.int .i64 b,.clo (.func 115) [.ref nm 0 []] []],[.cell nm (qg a)],fun r d σ=>d= .lst (r.1.map zG)∧σ=[.cell nm (qg r.2)],fun c=>.ifc 189 (.agg [.int .i64 c])⟩):=kP qky func134 rfl (by unfold qdM;exact wP)
def qbc(fuel:Nat)(a:qc):Option (Int⊕(qs×qc)):=bindX (qN a) fun b=>bindX (qdI fuel 4 b.2) fun c=>bindX (qdI fuel 4 c.2) fun d=>bindX (qdM fuel 12 d.2) fun e=>bindX (qdM fuel 12 e.2) fun f=>bindX (ql 0 1048576 f.2) fun g=>some (.inr ((⟨b.1,c.1,d.1,e.1,f.1,g.1⟩:qs),g.2))
instance(fuel:Nat)(a:qc):Cox prog 64 (qbc fuel a) (fun(nm:Nat)=>⟨[.ref nm 0 []],[.cell nm (qg a)],fun r d σ=>d=qo r.1∧σ=[.cell nm (qg r.2)],fun c=>.ifc 189 (.agg [.int .i64 c])⟩):=kP (fun _=>{}) func64 rfl (by unfold qbc;exact wP)
instance:EF prog 59 qs qo 6:=⟨qfB,fun _=>rfl⟩
def qes(fuel:Nat)(g:Int)(a:qc):Option (Int⊕((List qs)×qc)):=bindX (ql 0 g a) fun e=>forC (β:=(List qs)×qc) (fun _(b,c) d=>bindX (qbc fuel c) fun f=>(appO 120 b [f.1]).bind fun h=>d (h,f.2)) (fun(b,c)=>some (.inr (b,c))) (e.1-0:Int).toNat 0 ([],e.2)
def qkB(a:Nat):Tb:={ow:=[6,7],ls:=[(0,⟨Int×((List qs)×qc),[2,10],[11],fun s e w=>([(7,.own (oU e 7) (s.2.1.map qo)),(11,.int .i64 s.1)],[.cell a (qg s.2.2),.row (oU e 7) s.2.1.length 59 6]),[10]⟩)]}
instance(fuel:Nat)(b:Int)(a:qc):Cox prog 63 (qes fuel b a) (fun(nm:Nat)=>⟨[.ref nm 0 [],.int .i64 b,.clo (.func 64) [.ref nm 0 []] []],[.cell nm (qg a)],fun r d σ=>d= .lst (r.1.map qo)∧σ=[.cell nm (qg r.2)],fun c=>.ifc 189 (.agg [.int .i64 c])⟩):=kP qkB func63 rfl (by unfold qes;exact wP)
end
noncomputable section
def qaZ(fuel:Nat)(a:qc):Option (Int⊕(qf×qc)):=bindX (qet 30 a) fun b=>bindX (qes fuel 40 b.2) fun c=>some (.inr ((⟨b.1,c.1⟩:qf),c.2))
theorem qdm(fuel:Nat)(b:qc)(a:Nat)(res:Int⊕(qf×qc))(hr:qaZ fuel b=some res):yX prog 59 [.ref a 0 []] [.cell a (qg b)] (fun d σ=>∃r:qf×qc,res= .inr r∧d=qj r.1∧σ=[.cell a (qg r.2)]) (fun d=>∃c,res= .inl c∧d= .ifc 189 (.agg [.int .i64 c])):=by
 unfold qaZ at hr;refine qgO {} func59 rfl fun K hK hX hF=>?_;exact wk
instance(fuel:Nat)(a:qc):Cox prog 59 (qaZ fuel a) (fun(nm:Nat)=>⟨[.ref nm 0 []],[.cell nm (qg a)],fun r d σ=>d=qj r.1∧σ=[.cell nm (qg r.2)],fun c=>.ifc 189 (.agg [.int .i64 c])⟩):=⟨fun nm=>qdm fuel a nm⟩
def qr(b:Int)(c:Int)(a3:Int)(a:qd):Option (qd):=bif a.f1_bad then (qgR a.f0_b b).bind fun d=>some ((⟨d,true⟩:qd)) else bif(decide (b<c))then (qgR a.f0_b b).bind fun e=>some ((⟨e,true⟩:qd)) else (qgR a.f0_b b).bind fun f=>some ((⟨f,(decide (b>a3))⟩:qd))
instance(b:Int)(c:Int)(a3:Int)(a:qd):Co prog 43 (qr b c a3 a) (fun(nm:Nat)=>⟨[.ref nm 0 [],.int .i64 b,.int .i64 c,.int .i64 a3],[.cell nm (qi a)],fun res d σ=>d= .tup []∧σ=[.cell nm (qi res)]⟩):=kO (fun _=>{}) func43 rfl (by unfold qr;exact wO)
def qZ(b:ByteArray)(a:qd):Option (qd):=bif a.f1_bad then (qgI a.f0_b b).bind fun c=>some ((⟨c,true⟩:qd)) else (qgI a.f0_b b).bind fun d=>some ((⟨d,(decide ((b.size:Int)>(40:Int)))⟩:qd))
instance(b:ByteArray)(a:qd):Co prog 67 (qZ b a) (fun(nm:Nat)=>⟨[.ref nm 0 [],.str b],[.cell nm (qi a)],fun res d σ=>d= .tup []∧σ=[.cell nm (qi res)]⟩):=kO (fun _=>{}) func67 rfl (by unfold qZ;exact wO)
def qcU(a0:S_api_Decl)(a:qd):Option (qd):=(qZ a0.fy a).bind fun b=>(qr a0.fH 0 6 b).bind fun c=>some c
instance(a0:S_api_Decl)(a:qd):Co prog 66 (qcU a0 a) (fun(nm:Nat)=>⟨[qH a0,.ptr (.ref nm 0 [])],[.cell nm (qi a)],fun res d σ=>d= .tup []∧σ=[.cell nm (qi res)]⟩):=kO (fun _=>{}) func66 rfl (by unfold qcU;exact wO)
def qeg(e:List S_api_Decl)(f:Int)(a:qd):Option (qd):=(qr (e.length:Int) 0 f a).bind fun b=>bif b.f1_bad then some b else forL (β:=qd) (fun _ g c d=>(qcU g c).bind fun h=>d h) (fun c=>some c) 0 e b
def qkM(a:Nat):Tb:={fz:=[(4,[9])],ls:=[(0,⟨Nat×qd,[3,19,20],[],fun s e w=>([(21,.int .i64 (s.1:Int))],[.cell a (qi s.2)]),[12]⟩)]}
instance(b:List S_api_Decl)(c:Int)(a:qd):Co prog 65 (qeg b c a) (fun(nm:Nat)=>⟨[.ref nm 0 [],.lst (b.map qH),.int .i64 c,.clo (.func 66) [] [.ptr (.ref nm 0 [])]],[.cell nm (qi a)],fun res d σ=>d= .tup []∧σ=[.cell nm (qi res)]⟩):=kO qkM func65 rfl (by unfold qeg;exact wO)
def qU(rec:List T→Int→qd→Option (qd))(a:T)(b:qd):Option (qd):=(qr a.k 0 2 b).bind fun c=>bif(a.k==(0:Int))then (qr a.i (-2147483648) 2147483648 c).bind fun d=>some d else bif(a.k==(1:Int))then (qr a.i 0 1048576 c).bind fun e=>some e else (qZ a.s c).bind fun f=>(rec a.ar 6 f).bind fun g=>some g
theorem qgx(rec:List T→Int→qd→Option (qd))[IHR:∀(c:List T)(f:Int)(a:qd),Co prog 128 (rec c f a) (fun(nm:Nat)=>⟨[.ref nm 0 [],.lst (c.map zg),.int .i64 f,.clo (.func 52) [.ref nm 0 []] []],[.cell nm (qi a)],fun(res:qd)=>(fun d σ=>d= .tup []∧σ=[.cell nm (qi res)])⟩)](e:T)(a:qd)(b:Nat)(res:qd)(hr:qU rec e a=some res):Spec prog 52 [.ref b 0 [],zg e] [.cell b (qi a)] (fun d σ=>d= .tup []∧σ=[.cell b (qi res)]):=by
 unfold qU at hr;refine qdR {} func52 rfl fun K hK hF=>?_;exact wk
instance(rec:List T→Int→qd→Option (qd))[IHR:∀(c:List T)(e:Int)(a:qd),Co prog 128 (rec c e a) (fun(nm:Nat)=>⟨[.ref nm 0 [],.lst (c.map zg),.int .i64 e,.clo (.func 52) [.ref nm 0 []] []],[.cell nm (qi a)],fun(res:qd)=>(fun d σ=>d= .tup []∧σ=[.cell nm (qi res)])⟩)](b:T)(a:qd):Co prog 52 (qU rec b a) (fun(nm:Nat)=>⟨[.ref nm 0 [],zg b],[.cell nm (qi a)],fun(res:qd)=>(fun d σ=>d= .tup []∧σ=[.cell nm (qi res)])⟩):=⟨fun nm=>qgx rec b a nm⟩
def qaK:Nat→List T→Int→qd→Option (qd) |0,_,_,_=>none |fuel+1,e,f,a=>(fun(rec:List T→Int→qd→Option (qd))=>(qr (e.length:Int) 0 f a).bind fun b=>bif b.f1_bad then some b else forL (β:=qd) (fun _ g c d=>(qU rec g c).bind fun h=>d h) (fun c=>some c) 0 e b) (qaK fuel)
def qkG(a:Nat):Tb:={fz:=[(4,[9])],ls:=[(0,⟨Nat×qd,[3,19,20],[],fun s e w=>([(21,.int .i64 (s.1:Int))],[.cell a (qi s.2)]),[12]⟩)]}
instance kr_snapshot_list_s4:∀(fuel:Nat)(b:List T)(c:Int)(a:qd),Co prog 128 (qaK fuel b c a) (fun(nm:Nat)=>⟨[.ref nm 0 [],.lst (b.map zg),.int .i64 c,.clo (.func 52) [.ref nm 0 []] []],[.cell nm (qi a)],fun res d σ=>d= .tup []∧σ=[.cell nm (qi res)]⟩)
 |0,_,_,_=>⟨fun _ _ h=>by cases h⟩
 |fuel+1,_,_,_=>by
  have IHR:=kr_snapshot_list_s4 fuel;exact kO qkG func128 rfl (by unfold qaK;exact wO)
def qdP(fuel:Nat)(b:T)(a:qd):Option (qd):=qU (qaK fuel) b a
instance(fuel:Nat)(b:T)(a:qd):Co prog 52 (qdP fuel b a) (fun(nm:Nat)=>⟨[.ref nm 0 [],zg b],[.cell nm (qi a)],fun(res:qd)=>(fun d σ=>d= .tup []∧σ=[.cell nm (qi res)])⟩):=inferInstanceAs (Co prog 52 (qU (qaK fuel) b a) (fun(nm:Nat)=>⟨[.ref nm 0 [],zg b],[.cell nm (qi a)],fun(res:qd)=>(fun d σ=>d= .tup []∧σ=[.cell nm (qi res)])⟩))
def qa6(fuel:Nat)(b:ByteArray)(c:List T)(a:qd):Option (qd):=(qZ b a).bind fun d=>(qaK fuel c 6 d).bind fun e=>some e
instance(fuel:Nat)(b:ByteArray)(c:List T)(a:qd):Co prog 126 (qa6 fuel b c a) (fun(nm:Nat)=>⟨[.ref nm 0 [],.str b,.lst (c.map zg)],[.cell nm (qi a)],fun res d σ=>d= .tup []∧σ=[.cell nm (qi res)]⟩):=kO (fun _=>{}) func126 rfl (by unfold qa6;exact wO)
def qW(fuel:Nat)(b:At)(a:qd):Option (qd):=bif a.f1_bad then some ((⟨a.f0_b,true⟩:qd))else (qdY b).bind fun c=>bif(!(!c))then (qa6 fuel b.n b.ts (⟨a.f0_b,(!c)⟩:qd)).bind fun d=>some d else some ((⟨a.f0_b,(!c)⟩:qd))
instance(fuel:Nat)(b:At)(a:qd):Co prog 48 (qW fuel b a) (fun(nm:Nat)=>⟨[.ref nm 0 [],zK b],[.cell nm (qi a)],fun res d σ=>d= .tup []∧σ=[.cell nm (qi res)]⟩):=kO (fun _=>{}) func48 rfl (by unfold qW;exact wO)
def qem(fuel:Nat)(e:List At)(f:Int)(a:qd):Option (qd):=(qr (e.length:Int) 0 f a).bind fun b=>bif b.f1_bad then some b else forL (β:=qd) (fun _ g c d=>(qW fuel g c).bind fun h=>d h) (fun c=>some c) 0 e b
def qko(a:Nat):Tb:={fz:=[(4,[9])],ls:=[(0,⟨Nat×qd,[3,19,20],[],fun s e w=>([(21,.int .i64 (s.1:Int))],[.cell a (qi s.2)]),[12]⟩)]}
instance(fuel:Nat)(b:List At)(c:Int)(a:qd):Co prog 136 (qem fuel b c a) (fun(nm:Nat)=>⟨[.ref nm 0 [],.lst (b.map zK),.int .i64 c,.clo (.func 48) [.ref nm 0 []] []],[.cell nm (qi a)],fun res d σ=>d= .tup []∧σ=[.cell nm (qi res)]⟩):=kO qko func136 rfl (by unfold qem;exact wO)
def qY(fuel:Nat)(b:Gl)(a:qd):Option (qd):=bif a.f1_bad then some ((⟨a.f0_b,true⟩:qd))else (qef b).bind fun c=>bif(!(!c))then (qr b.op 0 12 (⟨a.f0_b,(!c)⟩:qd)).bind fun d=>(qa6 fuel b.n b.ts d).bind fun e=>some e  else some ((⟨a.f0_b,(!c)⟩:qd))
instance(fuel:Nat)(b:Gl)(a:qd):Co prog 124 (qY fuel b a) (fun(nm:Nat)=>⟨[.ref nm 0 [],zG b],[.cell nm (qi a)],fun res d σ=>d= .tup []∧σ=[.cell nm (qi res)]⟩):=kO (fun _=>{}) func124 rfl (by unfold qY;exact wO)
def qeq(fuel:Nat)(e:List Gl)(f:Int)(a:qd):Option (qd):=(qr (e.length:Int) 0 f a).bind fun b=>bif b.f1_bad then some b else forL (β:=qd) (fun _ g c d=>(qY fuel g c).bind fun h=>d h) (fun c=>some c) 0 e b
def qkm(a:Nat):Tb:={fz:=[(4,[9])],ls:=[(0,⟨Nat×qd,[3,19,20],[],fun s e w=>([(21,.int .i64 (s.1:Int))],[.cell a (qi s.2)]),[12]⟩)]}
instance(fuel:Nat)(b:List Gl)(c:Int)(a:qd):Co prog 137 (qeq fuel b c a) (fun(nm:Nat)=>⟨[.ref nm 0 [],.lst (b.map zG),.int .i64 c,.clo (.func 124) [.ref nm 0 []] []],[.cell nm (qi a)],fun res d σ=>d= .tup []∧σ=[.cell nm (qi res)]⟩):=kO qkm func137 rfl (by unfold qeq;exact wO)
def qbg(fuel:Nat)(a:qs)(b:qd):Option (qd):=(qZ a.fy b).bind fun c=>(qem fuel a.fm 4 c).bind fun d=>(qem fuel a.ft 4 d).bind fun e=>(qeq fuel a.fu 12 e).bind fun f=>(qeq fuel a.fx 12 f).bind fun g=>(qr a.fF 0 1048576 g).bind fun h=>some h
instance(fuel:Nat)(b:qs)(a:qd):Co prog 69 (qbg fuel b a) (fun(nm:Nat)=>⟨[.ref nm 0 [],qo b],[.cell nm (qi a)],fun res d σ=>d= .tup []∧σ=[.cell nm (qi res)]⟩):=kO (fun _=>{}) func69 rfl (by unfold qbg;exact wO)
def qeo(fuel:Nat)(e:List qs)(f:Int)(a:qd):Option (qd):=(qr (e.length:Int) 0 f a).bind fun b=>bif b.f1_bad then some b else forL (β:=qd) (fun _ g c d=>(qbg fuel g c).bind fun h=>d h) (fun c=>some c) 0 e b
def qkh(a:Nat):Tb:={fz:=[(4,[9])],ls:=[(0,⟨Nat×qd,[3,19,20],[],fun s e w=>([(21,.int .i64 (s.1:Int))],[.cell a (qi s.2)]),[12]⟩)]}
instance(fuel:Nat)(b:List qs)(c:Int)(a:qd):Co prog 68 (qeo fuel b c a) (fun(nm:Nat)=>⟨[.ref nm 0 [],.lst (b.map qo),.int .i64 c,.clo (.func 69) [.ref nm 0 []] []],[.cell nm (qi a)],fun res d σ=>d= .tup []∧σ=[.cell nm (qi res)]⟩):=kO qkh func68 rfl (by unfold qeo;exact wO)
def qai(a:qd):Option (List Int):=bif a.f1_bad then some ([])else some a.f0_b
instance(a:qd):Co prog 57 (qai a) (fun(nm:Nat)=>⟨[.ref nm 0 []],[.cell nm (qi a)],fun res d σ=>d= .lst (res.map (D.int .u8))∧σ=[.cell nm (qi a)]⟩):=kO (fun _=>{}) func57 rfl (by unfold qai;exact wO)
def qbQ(fuel:Nat)(a0:qf):Option (List Int):=(qr 1 1 1 (⟨[],false⟩:qd)).bind fun a=>(qeg a0.fD 30 a).bind fun b=>(qeo fuel a0.fe 40 b).bind fun c=>(qai c).bind fun d=>some d
def qke:Tb:={rf:=[5],fz:=[(1,[3])]}
theorem qg4(fuel:Nat)(a0:qf)(res:List Int)(hr:qbQ fuel a0=some res):zf prog 13 [qj a0] (.lst (res.map (D.int .u8))):=by
 unfold qbQ at hr;refine qdg qke func13 rfl fun K hK hF=>?_;exact wk
instance(fuel:Nat)(a0:qf):Cb prog 13 (qbQ fuel a0) [qj a0] (fun res=>.lst (res.map (D.int .u8))):=⟨qg4 fuel a0⟩
def qc6(fuel:Nat)(a0:List Int)(b:Int):Option (Int⊕(qf×Int)):=bindX (ql b b (⟨a0,0⟩:qc)) fun c=>bindX (qaZ fuel c.2) fun a=>bif(decide (a.2.f1_at<(a0.length:Int)))then some (.inl 3)else (qbQ fuel a.1).bind fun d=>bif((d.length:Int)==(0:Int))then some (.inl 2)else some (.inr (a.1,0))
def qfm(r:Int⊕(qf×Int)):qf×Int:=match r with
 |.inl c=>(⟨[],[]⟩,c)
 |.inr x=>x
def qe4(fuel:Nat)(b:List Int)(n:Int):Option (qf×Int):=(qc6 fuel b n).bind fun r=>some (qfm r)
def qao(fuel:Nat)(c:qc):Option (Int⊕(qB×qc)):=bindX (ql 0 2147483648 c) fun a=>bindX (ql (-1) 2147483648 a.2) fun b=>bif(a.1==(0:Int))then bindX (qaz fuel b.2) fun d=>some (.inr ((⟨d.1,a.1,b.1⟩:qB),d.2)) else some (.inr ((⟨(⟨0,⟨#[]⟩,[]⟩:Gl),a.1,b.1⟩:qB),b.2))
instance(fuel:Nat)(a:qc):Cox prog 32 (qao fuel a) (fun(nm:Nat)=>⟨[.ref nm 0 []],[.cell nm (qg a)],fun r d σ=>d=qG r.1∧σ=[.cell nm (qg r.2)],fun c=>.ifc 189 (.agg [.int .i64 c])⟩):=kP (fun _=>{}) func32 rfl (by unfold qao;exact wP)
instance:EF prog 72 qB qG 5:=⟨qeI,fun _=>rfl⟩
def qdG(fuel:Nat)(g:Int)(a:qc):Option (Int⊕((List qB)×qc)):=bindX (ql 0 g a) fun e=>forC (β:=(List qB)×qc) (fun _(b,c) d=>bindX (qao fuel c) fun f=>(appO 64 b [f.1]).bind fun h=>d (h,f.2)) (fun(b,c)=>some (.inr (b,c))) (e.1-0:Int).toNat 0 ([],e.2)
def qkd(a:Nat):Tb:={ow:=[6,7],ls:=[(0,⟨Int×((List qB)×qc),[2,10],[11],fun s e w=>([(7,.own (oU e 7) (s.2.1.map qG)),(11,.int .i64 s.1)],[.cell a (qg s.2.2),.row (oU e 7) s.2.1.length 72 5]),[10]⟩)]}
instance(fuel:Nat)(b:Int)(a:qc):Cox prog 31 (qdG fuel b a) (fun(nm:Nat)=>⟨[.ref nm 0 [],.int .i64 b,.clo (.func 32) [.ref nm 0 []] []],[.cell nm (qg a)],fun r d σ=>d= .lst (r.1.map qG)∧σ=[.cell nm (qg r.2)],fun c=>.ifc 189 (.agg [.int .i64 c])⟩):=kP qkd func31 rfl (by unfold qdG;exact wP)
def qbe(fuel:Nat)(a:qc):Option (Int⊕((Int×At)×qc)):=bindX (ql 0 2147483648 a) fun b=>bindX (qaA fuel b.2) fun c=>some (.inr ((b.1,c.1),c.2))
instance(fuel:Nat)(a:qc):Cox prog 34 (qbe fuel a) (fun(nm:Nat)=>⟨[.ref nm 0 []],[.cell nm (qg a)],fun r d σ=>d=zt r.1∧σ=[.cell nm (qg r.2)],fun c=>.ifc 189 (.agg [.int .i64 c])⟩):=kP (fun _=>{}) func34 rfl (by unfold qbe;exact wP)
instance:EF prog 83 (Int×At) zt 3:=⟨qyP,fun _=>rfl⟩
def qdA(fuel:Nat)(g:Int)(a:qc):Option (Int⊕((List (Int×At))×qc)):=bindX (ql 0 g a) fun e=>forC (β:=(List (Int×At))×qc) (fun _(b,c) d=>bindX (qbe fuel c) fun f=>(appO 48 b [f.1]).bind fun h=>d (h,f.2)) (fun(b,c)=>some (.inr (b,c))) (e.1-0:Int).toNat 0 ([],e.2)
def qkw(a:Nat):Tb:={ow:=[6,7],ls:=[(0,⟨Int×((List (Int×At))×qc),[2,10],[11],fun s e w=>([(7,.own (oU e 7) (s.2.1.map zt)),(11,.int .i64 s.1)],[.cell a (qg s.2.2),.row (oU e 7) s.2.1.length 83 3]),[10]⟩)]}
instance(fuel:Nat)(b:Int)(a:qc):Cox prog 33 (qdA fuel b a) (fun(nm:Nat)=>⟨[.ref nm 0 [],.int .i64 b,.clo (.func 34) [.ref nm 0 []] []],[.cell nm (qg a)],fun r d σ=>d= .lst (r.1.map zt)∧σ=[.cell nm (qg r.2)],fun c=>.ifc 189 (.agg [.int .i64 c])⟩):=kP qkw func33 rfl (by unfold qdA;exact wP)
def qaQ(fuel:Nat)(a:qc):Option (Int⊕((Int×T)×qc)):=bindX (ql 0 1048576 a) fun b=>bindX (qdq fuel 0 b.2) fun c=>some (.inr ((b.1,c.1),c.2))
instance(fuel:Nat)(a:qc):Cox prog 36 (qaQ fuel a) (fun(nm:Nat)=>⟨[.ptr (.ref nm 0 [])],[.cell nm (qg a)],fun r d σ=>d=zw r.1∧σ=[.cell nm (qg r.2)],fun c=>.ifc 189 (.agg [.int .i64 c])⟩):=kP (fun _=>{}) func36 rfl (by unfold qaQ;exact wP)
instance:EF prog 102 (Int×T) zw 5:=⟨qfp,fun _=>rfl⟩
def qdF(fuel:Nat)(g:Int)(a:qc):Option (Int⊕((List (Int×T))×qc)):=bindX (ql 0 g a) fun e=>forC (β:=(List (Int×T))×qc) (fun _(b,c) d=>bindX (qaQ fuel c) fun f=>(appO 64 b [f.1]).bind fun h=>d (h,f.2)) (fun(b,c)=>some (.inr (b,c))) (e.1-0:Int).toNat 0 ([],e.2)
def qkR(a:Nat):Tb:={ow:=[6,7],ls:=[(0,⟨Int×((List (Int×T))×qc),[2,10],[11],fun s e w=>([(7,.own (oU e 7) (s.2.1.map zw)),(11,.int .i64 s.1)],[.cell a (qg s.2.2),.row (oU e 7) s.2.1.length 102 5]),[10]⟩)]}
instance(fuel:Nat)(b:Int)(a:qc):Cox prog 35 (qdF fuel b a) (fun(nm:Nat)=>⟨[.ref nm 0 [],.int .i64 b,.clo (.func 36) [] [.ptr (.ref nm 0 [])]],[.cell nm (qg a)],fun r d σ=>d= .lst (r.1.map zw)∧σ=[.cell nm (qg r.2)],fun c=>.ifc 189 (.agg [.int .i64 c])⟩):=kP qkR func35 rfl (by unfold qdF;exact wP)
end
noncomputable section
def qbb(a:Int)(b:qc):Option (Int⊕(Int×qc)):=bindX (ql 0 a b) fun c=>some (.inr (c.1,c.2))
instance(a:Int)(b:qc):Cox prog 121 (qbb a b) (fun(nm:Nat)=>⟨[.ptr (.ref nm 0 []),.ptr (.int .i64 a)],[.cell nm (qg b)],fun r d σ=>d= .int .i64 r.1∧σ=[.cell nm (qg r.2)],fun c=>.ifc 189 (.agg [.int .i64 c])⟩):=kP (fun _=>{}) func121 rfl (by unfold qbb;exact wP)
instance:EF prog 3 Int (D.int .i64) 1:=⟨fun _=>rfl,fun _=>rfl⟩
def qd3(h:Int)(a:Int)(b:qc):Option (Int⊕((List Int)×qc)):=bindX (ql 0 h b) fun f=>forC (β:=(List Int)×qc) (fun _(c,d) e=>bindX (qbb a d) fun g=>(appO 8 c [g.1]).bind fun j=>e (j,g.2)) (fun(c,d)=>some (.inr (c,d))) (f.1-0:Int).toNat 0 ([],f.2)
def qj5(a:Nat):Tb:={ow:=[6,7],ls:=[(0,⟨Int×((List Int)×qc),[2,10],[11],fun s e w=>([(7,.own (oU e 7) (s.2.1.map (D.int .i64))),(11,.int .i64 s.1)],[.cell a (qg s.2.2),.row (oU e 7) s.2.1.length 3 1]),[10]⟩)]}
instance(e:Int)(a:Int)(b:qc):Cox prog 120 (qd3 e a b) (fun(nm:Nat)=>⟨[.ref nm 0 [],.int .i64 e,.clo (.func 121) [] [.ptr (.ref nm 0 []),.ptr (.int .i64 a)]],[.cell nm (qg b)],fun r d σ=>d= .lst (r.1.map (D.int .i64))∧σ=[.cell nm (qg r.2)],fun c=>.ifc 189 (.agg [.int .i64 c])⟩):=kP qj5 func120 rfl (by unfold qd3;exact wP)
def qbw(c:Int)(d:Int)(a:qc):Option (Int⊕((List Int)×qc)):=bindX (qd3 c d a) fun b=>some (.inr (b.1,b.2))
instance(b:Int)(e:Int)(a:qc):Cox prog 41 (qbw b e a) (fun(nm:Nat)=>⟨[.ref nm 0 [],.int .i64 b,.int .i64 e],[.cell nm (qg a)],fun r d σ=>d= .lst (r.1.map (D.int .i64))∧σ=[.cell nm (qg r.2)],fun c=>.ifc 189 (.agg [.int .i64 c])⟩):=kP (fun _=>{}) func41 rfl (by unfold qbw;exact wP)
def qaN(a:qc):Option (Int⊕(qu×qc)):=bindX (ql 0 40 a) fun b=>bindX (qbw 4 2147483648 b.2) fun c=>some (.inr ((⟨b.1,c.1⟩:qu),c.2))
instance(a:qc):Cox prog 40 (qaN a) (fun(nm:Nat)=>⟨[.ptr (.ref nm 0 [])],[.cell nm (qg a)],fun r d σ=>d=qp r.1∧σ=[.cell nm (qg r.2)],fun c=>.ifc 189 (.agg [.int .i64 c])⟩):=kP (fun _=>{}) func40 rfl (by unfold qaN;exact wP)
instance:EF prog 108 qu qp 2:=⟨qar,fun _=>rfl⟩
def qdx(g:Int)(a:qc):Option (Int⊕((List qu)×qc)):=bindX (ql 0 g a) fun e=>forC (β:=(List qu)×qc) (fun _(b,c) d=>bindX (qaN c) fun f=>(appO 32 b [f.1]).bind fun h=>d (h,f.2)) (fun(b,c)=>some (.inr (b,c))) (e.1-0:Int).toNat 0 ([],e.2)
def qki(a:Nat):Tb:={ow:=[6,7],ls:=[(0,⟨Int×((List qu)×qc),[2,10],[11],fun s e w=>([(7,.own (oU e 7) (s.2.1.map qp)),(11,.int .i64 s.1)],[.cell a (qg s.2.2),.row (oU e 7) s.2.1.length 108 2]),[10]⟩)]}
instance(b:Int)(a:qc):Cox prog 39 (qdx b a) (fun(nm:Nat)=>⟨[.ref nm 0 [],.int .i64 b,.clo (.func 40) [] [.ptr (.ref nm 0 [])]],[.cell nm (qg a)],fun r d σ=>d= .lst (r.1.map qp)∧σ=[.cell nm (qg r.2)],fun c=>.ifc 189 (.agg [.int .i64 c])⟩):=kP qki func39 rfl (by unfold qdx;exact wP)
instance:EF prog 5 Int (D.int .u8) 1:=⟨fun _=>rfl,fun _=>rfl⟩
def qfM(a0:List Int)(a:Int):Option (Bool×Int×Int):=bif(decide (a<(0:Int)))then some (false,0,2)else bif(decide (a>(a0.length:Int)))then some (false,0,2)else bif(a==(a0.length:Int))then some (false,0,4)else (getI a0 a).bind fun b=>bif(decide (b>(1:Int)))then some (false,0,3)else some ((b==(1:Int)),(wr (a+(1:Int))),0)
instance(a0:List Int)(a:Int):Cb prog 122 (qfM a0 a) [.lst (a0.map (D.int .u8)),.int .i64 a] (fun res=>.tup [.bool res.1,.int .i64 res.2.1,.int .i64 res.2.2]):=kC {} func122 rfl (by unfold qfM;exact wS)
def qbd(a:qc):Option (Int⊕(Bool×qc)):=(qfM a.f0_b a.f1_at).bind fun b=>bindX (qbf b.2.1 b.2.2 a) fun c=>some (.inr (b.1,c))
def qgJ(a:Nat):Tb:={rg:=[(1,[(0,0),(1,0),(2,0),(3,2),(4,0),(5,0),(6,0),(7,2),(8,0),(9,0),(10,0),(11,0),(12,0),(13,0),(14,0),(15,0)])]}
instance(a:qc):Cox prog 42 (qbd a) (fun(nm:Nat)=>⟨[.ref nm 0 []],[.cell nm (qg a)],fun r d σ=>d= .bool r.1∧σ=[.cell nm (qg r.2)],fun c=>.ifc 189 (.agg [.int .i64 c])⟩):=kP qgJ func42 rfl (by unfold qbd;exact wP)
def qay(fuel:Nat)(a:qc):Option (Int⊕(qe×qc)):=bindX (qdG fuel 1000 a) fun b=>bindX (qdA fuel 500 b.2) fun c=>bindX (qdF fuel 1048576 c.2) fun d=>bindX (qdx 5000 d.2) fun e=>bindX (ql 0 2147483648 e.2) fun f=>bindX (ql 0 1048576 f.2) fun g=>bindX (qbd g.2) fun h=>some (.inr ((⟨b.1,c.1,d.1,e.1,f.1,g.1,h.1⟩:qe),h.2))
theorem qdB(fuel:Nat)(b:qc)(a:Nat)(res:Int⊕(qe×qc))(hr:qay fuel b=some res):yX prog 30 [.ref a 0 []] [.cell a (qg b)] (fun d σ=>∃r:qe×qc,res= .inr r∧d=qh r.1∧σ=[.cell a (qg r.2)]) (fun d=>∃c,res= .inl c∧d= .ifc 189 (.agg [.int .i64 c])):=by
 unfold qay at hr;refine qgO {} func30 rfl fun K hK hX hF=>?_;exact wk
instance(fuel:Nat)(a:qc):Cox prog 30 (qay fuel a) (fun(nm:Nat)=>⟨[.ref nm 0 []],[.cell nm (qg a)],fun r d σ=>d=qh r.1∧σ=[.cell nm (qg r.2)],fun c=>.ifc 189 (.agg [.int .i64 c])⟩):=⟨fun nm=>qdB fuel a nm⟩
def qap(fuel:Nat)(a:qB)(c:qd):Option (qd):=(qr a.fj 0 2147483648 c).bind fun d=>(qr a.fA (-1) 2147483648 d).bind fun b=>bif(a.fj==(0:Int))then (qY fuel a.fi b).bind fun e=>some e else bif b.f1_bad then some ((⟨b.f0_b,true⟩:qd))else bif(a.fi.op !=(0:Int))then some ((⟨b.f0_b,true⟩:qd))else bif(!(a.fi.n.toList==(⟨#[]⟩:ByteArray).toList))then some ((⟨b.f0_b,true⟩:qd))else some ((⟨b.f0_b,(decide ((a.fi.ts.length:Int)>(0:Int)))⟩:qd))
instance(fuel:Nat)(b:qB)(a:qd):Co prog 45 (qap fuel b a) (fun(nm:Nat)=>⟨[.ref nm 0 [],qG b],[.cell nm (qi a)],fun res d σ=>d= .tup []∧σ=[.cell nm (qi res)]⟩):=kO (fun _=>{}) func45 rfl (by unfold qap;exact wO)
def qdH(fuel:Nat)(e:List qB)(f:Int)(a:qd):Option (qd):=(qr (e.length:Int) 0 f a).bind fun b=>bif b.f1_bad then some b else forL (β:=qd) (fun _ g c d=>(qap fuel g c).bind fun h=>d h) (fun c=>some c) 0 e b
def qka(a:Nat):Tb:={fz:=[(4,[9])],ls:=[(0,⟨Nat×qd,[3,19,20],[],fun s e w=>([(21,.int .i64 (s.1:Int))],[.cell a (qi s.2)]),[12]⟩)]}
instance(fuel:Nat)(b:List qB)(c:Int)(a:qd):Co prog 44 (qdH fuel b c a) (fun(nm:Nat)=>⟨[.ref nm 0 [],.lst (b.map qG),.int .i64 c,.clo (.func 45) [.ref nm 0 []] []],[.cell nm (qi a)],fun res d σ=>d= .tup []∧σ=[.cell nm (qi res)]⟩):=kO qka func44 rfl (by unfold qdH;exact wO)
def qci(fuel:Nat)(a0:(Int×At))(a:qd):Option (qd):=(qr a0.1 0 2147483648 a).bind fun b=>(qW fuel a0.2 b).bind fun c=>some c
instance(fuel:Nat)(a0:(Int×At))(a:qd):Co prog 47 (qci fuel a0 a) (fun(nm:Nat)=>⟨[zt a0,.ptr (.ref nm 0 [])],[.cell nm (qi a)],fun res d σ=>d= .tup []∧σ=[.cell nm (qi res)]⟩):=kO (fun _=>{}) func47 rfl (by unfold qci;exact wO)
def qdJ(fuel:Nat)(e:List (Int×At))(f:Int)(a:qd):Option (qd):=(qr (e.length:Int) 0 f a).bind fun b=>bif b.f1_bad then some b else forL (β:=qd) (fun _ g c d=>(qci fuel g c).bind fun h=>d h) (fun c=>some c) 0 e b
def qkJ(a:Nat):Tb:={fz:=[(4,[9])],ls:=[(0,⟨Nat×qd,[3,19,20],[],fun s e w=>([(21,.int .i64 (s.1:Int))],[.cell a (qi s.2)]),[12]⟩)]}
instance(fuel:Nat)(b:List (Int×At))(c:Int)(a:qd):Co prog 46 (qdJ fuel b c a) (fun(nm:Nat)=>⟨[.ref nm 0 [],.lst (b.map zt),.int .i64 c,.clo (.func 47) [] [.ptr (.ref nm 0 [])]],[.cell nm (qi a)],fun res d σ=>d= .tup []∧σ=[.cell nm (qi res)]⟩):=kO qkJ func46 rfl (by unfold qdJ;exact wO)
def qca(fuel:Nat)(a0:(Int×T))(b:qd):Option (qd):=(qr a0.1 0 1048576 b).bind fun a=>bif a.f1_bad then some ((⟨a.f0_b,true⟩:qd))else (qeM a0.2).bind fun c=>bif(!(!c))then (qdP fuel a0.2 (⟨a.f0_b,(!c)⟩:qd)).bind fun d=>some d else some ((⟨a.f0_b,(!c)⟩:qd))
def qin(a:Nat):Tb:={rg:=[(2,[(0,0),(1,0),(2,0),(3,0),(4,2),(5,0),(6,0),(7,0),(8,0),(9,0),(10,0),(11,0),(12,0),(13,1)])]}
instance(fuel:Nat)(a0:(Int×T))(a:qd):Co prog 50 (qca fuel a0 a) (fun(nm:Nat)=>⟨[zw a0,.ptr (.ref nm 0 [])],[.cell nm (qi a)],fun res d σ=>d= .tup []∧σ=[.cell nm (qi res)]⟩):=kO qin func50 rfl (by unfold qca;exact wO)
def qdN(fuel:Nat)(e:List (Int×T))(f:Int)(a:qd):Option (qd):=(qr (e.length:Int) 0 f a).bind fun b=>bif b.f1_bad then some b else forL (β:=qd) (fun _ g c d=>(qca fuel g c).bind fun h=>d h) (fun c=>some c) 0 e b
def qkp(a:Nat):Tb:={fz:=[(4,[9])],ls:=[(0,⟨Nat×qd,[3,19,20],[],fun s e w=>([(21,.int .i64 (s.1:Int))],[.cell a (qi s.2)]),[12]⟩)]}
instance(fuel:Nat)(b:List (Int×T))(c:Int)(a:qd):Co prog 49 (qdN fuel b c a) (fun(nm:Nat)=>⟨[.ref nm 0 [],.lst (b.map zw),.int .i64 c,.clo (.func 50) [] [.ptr (.ref nm 0 [])]],[.cell nm (qi a)],fun res d σ=>d= .tup []∧σ=[.cell nm (qi res)]⟩):=kO qkp func49 rfl (by unfold qdN;exact wO)
def qba(a0:Int)(a:Int)(b:qd):Option (qd):=(qr a0 0 a b).bind fun c=>some c
instance(a0:Int)(a:Int)(b:qd):Co prog 130 (qba a0 a b) (fun(nm:Nat)=>⟨[.int .i64 a0,.ptr (.ref nm 0 []),.ptr (.int .i64 a)],[.cell nm (qi b)],fun res d σ=>d= .tup []∧σ=[.cell nm (qi res)]⟩):=kO (fun _=>{}) func130 rfl (by unfold qba;exact wO)
def qe9(f:List Int)(g:Int)(a:Int)(b:qd):Option (qd):=(qr (f.length:Int) 0 g b).bind fun c=>bif c.f1_bad then some c else forL (β:=qd) (fun _ h d e=>(qba h a d).bind fun j=>e j) (fun d=>some d) 0 f c
def qj3(a:Nat):Tb:={ls:=[(0,⟨Nat×qd,[3,19,20],[],fun s e w=>([(21,.int .i64 (s.1:Int))],[.cell a (qi s.2)]),[12]⟩)]}
instance(c:List Int)(e:Int)(a:Int)(b:qd):Co prog 129 (qe9 c e a b) (fun(nm:Nat)=>⟨[.ref nm 0 [],.lst (c.map (D.int .i64)),.int .i64 e,.clo (.func 130) [] [.ptr (.ref nm 0 []),.ptr (.int .i64 a)]],[.cell nm (qi b)],fun res d σ=>d= .tup []∧σ=[.cell nm (qi res)]⟩):=kO qj3 func129 rfl (by unfold qe9;exact wO)
def qcI(b:List Int)(c:Int)(a3:Int)(a:qd):Option (qd):=(qe9 b c a3 a).bind fun d=>some d
instance(b:List Int)(c:Int)(a3:Int)(a:qd):Co prog 55 (qcI b c a3 a) (fun(nm:Nat)=>⟨[.ref nm 0 [],.lst (b.map (D.int .i64)),.int .i64 c,.int .i64 a3],[.cell nm (qi a)],fun res d σ=>d= .tup []∧σ=[.cell nm (qi res)]⟩):=kO (fun _=>{}) func55 rfl (by unfold qcI;exact wO)
def qcc(a0:qu)(a:qd):Option (qd):=(qr a0.fp 0 40 a).bind fun b=>(qcI a0.ff 4 2147483648 b).bind fun c=>some c
instance(a0:qu)(a:qd):Co prog 54 (qcc a0 a) (fun(nm:Nat)=>⟨[qp a0,.ptr (.ref nm 0 [])],[.cell nm (qi a)],fun res d σ=>d= .tup []∧σ=[.cell nm (qi res)]⟩):=kO (fun _=>{}) func54 rfl (by unfold qcc;exact wO)
def qdO(e:List qu)(f:Int)(a:qd):Option (qd):=(qr (e.length:Int) 0 f a).bind fun b=>bif b.f1_bad then some b else forL (β:=qd) (fun _ g c d=>(qcc g c).bind fun h=>d h) (fun c=>some c) 0 e b
def qkn(a:Nat):Tb:={fz:=[(4,[9])],ls:=[(0,⟨Nat×qd,[3,19,20],[],fun s e w=>([(21,.int .i64 (s.1:Int))],[.cell a (qi s.2)]),[12]⟩)]}
instance(b:List qu)(c:Int)(a:qd):Co prog 53 (qdO b c a) (fun(nm:Nat)=>⟨[.ref nm 0 [],.lst (b.map qp),.int .i64 c,.clo (.func 54) [] [.ptr (.ref nm 0 [])]],[.cell nm (qi a)],fun res d σ=>d= .tup []∧σ=[.cell nm (qi res)]⟩):=kO qkn func53 rfl (by unfold qdO;exact wO)
def qaD(fuel:Nat)(a0:qe):Option (List Int):=(qr 2 2 2 (⟨[],false⟩:qd)).bind fun d=>(qdH fuel a0.fk 1000 d).bind fun e=>(qdJ fuel a0.fh 500 e).bind fun f=>(qdN fuel a0.fo 1048576 f).bind fun g=>(qdO a0.fC 5000 g).bind fun h=>(qr a0.fl 0 2147483648 h).bind fun j=>(qr a0.fg 0 1048576 j).bind fun c=>(qgH c.f0_b a0.fE).bind fun a=>(qai (⟨a,c.f1_bad⟩:qd)).bind fun b=>some b
def qk8:Tb:={rf:=[5],fz:=[(1,[3])],rg:=[(9,[(0,0),(1,0),(2,0),(3,0),(4,2),(5,0),(6,0),(7,0),(8,0),(9,0),(10,1)])]}
theorem qhm(fuel:Nat)(a0:qe)(res:List Int)(hr:qaD fuel a0=some res):zf prog 11 [qh a0] (.lst (res.map (D.int .u8))):=by
 unfold qaD at hr;refine qdg qk8 func11 rfl fun K hK hF=>?_;exact wk
instance(fuel:Nat)(a0:qe):Cb prog 11 (qaD fuel a0) [qh a0] (fun res=>.lst (res.map (D.int .u8))):=⟨qhm fuel a0⟩
def qbt(fuel:Nat)(a0:List Int)(b:Int):Option (Int⊕(qe×Int)):=bindX (ql b b (⟨a0,0⟩:qc)) fun c=>bindX (qay fuel c.2) fun a=>bif(decide (a.2.f1_at<(a0.length:Int)))then some (.inl 3)else (qaD fuel a.1).bind fun d=>bif((d.length:Int)==(0:Int))then some (.inl 2)else some (.inr (a.1,0))
def qfI(r:Int⊕(qe×Int)):qe×Int:=match r with
 |.inl c=>(⟨[],[],[],[],0,0,false⟩,c)
 |.inr x=>x
def qew(fuel:Nat)(b:List Int)(n:Int):Option (qe×Int):=(qbt fuel b n).bind fun r=>some (qfI r)
def qbm(a0:List T):Option Bool:=bif(decide ((a0.length:Int)>(8:Int)))then some false else forL (β:=Int) (fun _ d a b=>(qsM d).bind fun c=>bif(decide ((wr (a+c))>(60:Int)))then some false else b (wr (a+c))) (fun a=>some true) 0 a0 0
def qiY:Tb:={ls:=[(0,⟨Nat×Int,[0],[],fun s e w=>([(3,.int .i64 s.2),(4,.int .i64 (s.1:Int))],[]),[6]⟩)]}
instance(a0:List T):Cb prog 18 (qbm a0) [.lst (a0.map zg)] (fun res=>.bool res):=kC qiY func18 rfl (by unfold qbm;exact wS)
def qa9(a0:List At):Option Bool:=forL (β:=Unit) (fun _ b _ a=>(qbm b.ts).bind fun c=>bif(!c)then some false else a ()) (fun _=>some true) 0 a0 ()
def qhO:Tb:={ls:=[(0,⟨Nat×Unit,[0],[],fun s e w=>([(3,.int .i64 (s.1:Int))],[]),[0]⟩)]}
instance(a0:List At):Cb prog 17 (qa9 a0) [.lst (a0.map zK)] (fun res=>.bool res):=kC qhO func17 rfl (by unfold qa9;exact wS)
def qas(a0:List Gl)(b:Int):Option Bool:=bif(decide ((a0.length:Int)>b))then some false else forL (β:=Unit) (fun _ c _ a=>(qbm c.ts).bind fun d=>bif(!d)then some false else a ()) (fun _=>some true) 0 a0 ()
def qhN:Tb:={ls:=[(0,⟨Nat×Unit,[0],[],fun s e w=>([(5,.int .i64 (s.1:Int))],[]),[7]⟩)]}
instance(a0:List Gl)(a:Int):Cb prog 5 (qas a0 a) [.lst (a0.map zG),.int .i64 a] (fun res=>.bool res):=kC qhN func5 rfl (by unfold qas;exact wS)
def qbj(a0:qf):Option Bool:=bif(decide ((a0.fD.length:Int)>(12:Int)))then some false else bif(decide ((a0.fe.length:Int)>(8:Int)))then some false else forL (β:=Unit) (fun _ a _ b=>bif(decide ((a.fm.length:Int)>(3:Int)))then some false else bif(decide ((a.ft.length:Int)>(3:Int)))then some false else bif(decide ((wr ((a.fm.length:Int)+(a.ft.length:Int)))>(3:Int)))then some false else bif(decide ((a.fu.length:Int)>(6:Int)))then some false else bif(decide ((a.fx.length:Int)>(6:Int)))then some false else (qa9 a.fm).bind fun c=>bif(!c)then some false else (qa9 a.ft).bind fun d=>bif(!d)then some false else (qas a.fu 6).bind fun e=>bif(!e)then some false else (qas a.fx 6).bind fun f=>bif(!f)then some false else b ()) (fun _=>some true) 0 a0.fe ()
def qgL:Tb:={fz:=[(6,[4])],ls:=[(0,⟨Nat×Unit,[1],[],fun s e w=>([(3,.int .i64 (s.1:Int))],[]),[12]⟩)]}
instance(a0:qf):Cb prog 4 (qbj a0) [qj a0] (fun res=>.bool res):=kC qgL func4 rfl (by unfold qbj;exact wS)
def qdW(a0:List Gl)(a:Int):Option (qe):=(qgA [] a0).bind fun b=>some ((⟨b,[],[],[],1,(zap a (0:Int)),false⟩:qe))
instance(a0:List Gl)(a:Int):Cb prog 6 (qdW a0 a) [.lst (a0.map zG),.int .i64 a] (fun res=>qh res):=kC {} func6 rfl (by unfold qdW;exact wS)
end
noncomputable section
def qX(a0:List S_api_Decl)(c:ByteArray)(d:Int):Option Bool:=forL (β:=Unit) (fun _ b _ a=>bif(b.fy.toList==c.toList)then bif(b.fH==d)then some true else a ()  else a ()) (fun _=>some false) 0 a0 ()
def qgW:Tb:={ls:=[(0,⟨Nat×Unit,[0,1,2],[],fun s e w=>([(7,.int .i64 (s.1:Int))],[]),[0]⟩)]}
instance(a0:List S_api_Decl)(a:ByteArray)(b:Int):Cb prog 80 (qX a0 a b) [.lst (a0.map qH),.str a,.int .i64 b] (fun res=>.bool res):=kC qgW func80 rfl (by unfold qX;exact wS)
def qaf(a0:qs):Option (List At):=(appO 40 [] a0.fm).bind fun a=>(appO 40 a a0.ft).bind fun b=>some b
def qhJ:Tb:={ow:=[2,3],rg:=[(1,[(1,0),(2,0),(4,0),(5,0),(0,1),(3,1),(6,1),(7,0)])]}
instance(a0:qs):Cb prog 147 (qaf a0) [qo a0] (fun res=>.lst (res.map zK)):=kC qhJ func147 rfl (by unfold qaf;exact wS)
def qat(a0:qs):Option (List Gl):=(appO 48 [] a0.fu).bind fun a=>(appO 48 a a0.fx).bind fun b=>some b
def qhQ:Tb:={ow:=[2,3],rg:=[(1,[(1,0),(2,0),(4,0),(5,0),(0,1),(3,1),(6,1),(7,0)])]}
instance(a0:qs):Cb prog 148 (qat a0) [qo a0] (fun res=>.lst (res.map zG)):=kC qhQ func148 rfl (by unfold qat;exact wS)
def qcv(a0:List Int)(b:Int):Option Bool:=forL (β:=Unit) (fun _ c _ a=>bif(c==b)then some true else a ()) (fun _=>some false) 0 a0 ()
def qjl:Tb:={ls:=[(0,⟨Nat×Unit,[0,1],[],fun s e w=>([(5,.int .i64 (s.1:Int))],[]),[0]⟩)]}
instance(a0:List Int)(a:Int):Cb prog 221 (qcv a0 a) [.lst (a0.map (D.int .i64)),.int .i64 a] (fun res=>.bool res):=kC qjl func221 rfl (by unfold qcv;exact wS)
def qaM(a0:T):Option (List T):=bif(a0.k==(2:Int))then some a0.ar else some ([])
instance(a0:T):Cb prog 142 (qaM a0) [zg a0] (fun res=>.lst (res.map zg)):=kC {} func142 rfl (by unfold qaM;exact wS)
def qT:Nat→List Int→T→Option (List Int) |0,_,_=>none |fuel+1,a0,b=>(fun(rec:List Int→T→Option (List Int))=>jn (β:=(List Int)) (fun a=>bif(b.k==(1:Int))then (qcv a0 b.i).bind fun c=>bif(!c)then (appO 8 a0 [b.i]).bind fun d=>a d  else a a0   else a a0) (fun g=>(qaM b).bind fun h=>forL (β:=(List Int)) (fun _ j e f=>(rec e j).bind fun l=>f l) (fun e=>some e) 0 h g)) (qT fuel)
def qhd(a:Value):Tb:={ow:=[4],ls:=[(0,⟨Nat×(List Int),[5],[0],fun s e w=>([(0,.own (oU e 0) (s.2.map (D.int .i64))),(6,.int .i64 (s.1:Int))],[.row (oU e 0) s.2.length 3 1]),[23]⟩)],js:=[(3,⟨(List Int),[3],[0],fun s e w=>([(0,.own (oU e 0) (s.map (D.int .i64)))],[.row (oU e 0) s.length 3 1]),[]⟩)]}
instance kr_constraintref03_vars_s1:∀(fuel:Nat)(a0:List Int)(b:T),Co prog 157 (qT fuel a0 b) (fun(nm:Value)=>⟨[.own nm (a0.map (D.int .i64)),zg b],[.row nm a0.length 3 1],fun res d σ=>∃(a:Value),d= .own a (res.map (D.int .i64))∧σ=[.row a res.length 3 1]⟩)
 |0,_,_=>⟨fun _ _ h=>by cases h⟩
 |fuel+1,_,_=>by
  have IHR:=kr_constraintref03_vars_s1 fuel;exact kO qhd func157 rfl (by unfold qT;exact wO)
def qac(fuel:Nat)(a0:List T):Option (List Int):=forL (β:=(List Int)) (fun _ c a b=>(qT fuel a c).bind fun d=>b d) (fun a=>some a) 0 a0 []
def qhp:Tb:={ow:=[2,3],ls:=[(0,⟨Nat×(List Int),[0],[3],fun s e w=>([(3,.own (oU e 3) (s.2.map (D.int .i64))),(4,.int .i64 (s.1:Int))],[.row (oU e 3) s.2.length 3 1]),[0]⟩)]}
instance(fuel:Nat)(a0:List T):Cb prog 156 (qac fuel a0) [.lst (a0.map zg)] (fun res=>.lst (res.map (D.int .i64))):=kC qhp func156 rfl (by unfold qac;exact wS)
def qch(fuel:Nat)(a0:qs):Option (List Int):=(qaf a0).bind fun j=>forL (β:=(List T)) (fun _ l b c=>(appO 56 b l.ts).bind fun d=>c d) (fun b=>(qat a0).bind fun m=>forL (β:=(List T)) (fun _ a e f=>(appO 56 e a.ts).bind fun g=>f g) (fun e=>(qac fuel e).bind fun h=>some h) 0 m b) 0 j []
def qiC:Tb:={ow:=[3],ls:=[(0,⟨Nat×(List T),[1,4],[3],fun s e w=>([(3,.own (oU e 3) (s.2.map zg)),(5,.int .i64 (s.1:Int))],[.row (oU e 3) s.2.length 77 4]),[9]⟩),(2,⟨Nat×(List T),[6],[3],fun s e w=>([(3,.own (oU e 3) (s.2.map zg)),(7,.int .i64 (s.1:Int))],[.row (oU e 3) s.2.length 77 4]),[24]⟩)]}
instance(fuel:Nat)(a0:qs):Cb prog 150 (qch fuel a0) [qo a0] (fun res=>.lst (res.map (D.int .i64))):=kC qiC func150 rfl (by unfold qch;exact wS)
def qaI(a0:List S_api_Decl)(c:ByteArray)(d:Int):Option Int:=forL (β:=Int) (fun _ e b a=>bif(e.fy.toList==c.toList)then a 9 else a b) (fun b=>(qX a0 c d).bind fun f=>bif f then some (0)else some b) 0 a0 7
def qha:Tb:={ls:=[(0,⟨Nat×Int,[0,1,2],[],fun s e w=>([(7,.int .i64 s.2),(8,.int .i64 (s.1:Int))],[]),[0]⟩)]}
instance(a0:List S_api_Decl)(a:ByteArray)(b:Int):Cb prog 213 (qaI a0 a b) [.lst (a0.map qH),.str a,.int .i64 b] (fun res=>.int .i64 res):=kC qha func213 rfl (by unfold qaI;exact wS)
def qbU(a0:List S_api_Decl)(d:List Gl):Option Int:=forL (β:=Unit) (fun _ b _ a=>bif(b.op !=(0:Int))then a () else (qaI a0 b.n (b.ts.length:Int)).bind fun c=>bif(c !=(0:Int))then some c else a ()) (fun _=>some (0)) 0 d ()
def qhM:Tb:={ls:=[(0,⟨Nat×Unit,[0,1],[],fun s e w=>([(5,.int .i64 (s.1:Int))],[]),[1]⟩)]}
instance(a0:List S_api_Decl)(a:List Gl):Cb prog 214 (qbU a0 a) [.lst (a0.map qH),.lst (a.map zG)] (fun res=>.int .i64 res):=kC qhM func214 rfl (by unfold qbU;exact wS)
def qbn(a0:Int):Option Bool:=bif(decide (a0≥(5:Int)))then some ((decide (a0≤(12:Int))))else some false
instance(a0:Int):Cb prog 215 (qbn a0) [.int .i64 a0] (fun res=>.bool res):=kC {} func215 rfl (by unfold qbn;exact wS)
def qbi(fuel:Nat)(a0:qs):Option (List Int):=(qaf a0).bind fun c=>forL (β:=(List T)) (fun _ d a b=>(appO 56 a d.ts).bind fun e=>b e) (fun a=>(qac fuel a).bind fun f=>some f) 0 c []
def qgP:Tb:={ow:=[3],ls:=[(0,⟨Nat×(List T),[4],[3],fun s e w=>([(3,.own (oU e 3) (s.2.map zg)),(5,.int .i64 (s.1:Int))],[.row (oU e 3) s.2.length 77 4]),[7]⟩)]}
instance(fuel:Nat)(a0:qs):Cb prog 216 (qbi fuel a0) [qo a0] (fun res=>.lst (res.map (D.int .i64))):=kC qgP func216 rfl (by unfold qbi;exact wS)
def qav(fuel:Nat)(a0:Gl):Option (List Int):=(qac fuel a0.ts).bind fun a=>some a
instance(fuel:Nat)(a0:Gl):Cb prog 92 (qav fuel a0) [zG a0] (fun res=>.lst (res.map (D.int .i64))):=kC {} func92 rfl (by unfold qav;exact wS)
def qcR(a0:List Int)(b:Int):Option Bool:=forL (β:=Unit) (fun _ c _ a=>bif(c==b)then some true else a ()) (fun _=>some false) 0 a0 ()
def qjt:Tb:={ls:=[(0,⟨Nat×Unit,[0,1],[],fun s e w=>([(5,.int .i64 (s.1:Int))],[]),[0]⟩)]}
instance(a0:List Int)(a:Int):Cb prog 217 (qcR a0 a) [.lst (a0.map (D.int .i64)),.int .i64 a] (fun res=>.bool res):=kC qjt func217 rfl (by unfold qcR;exact wS)
def qah(fuel:Nat)(a0:List S_api_Decl)(a:qs):Option Int:=(qaf a).bind fun x=>forL (β:=Unit) (fun _ u _ d=>(qaI a0 u.n (u.ts.length:Int)).bind fun b=>bif(b !=(0:Int))then some b else d ()) (fun _=>(qat a).bind fun z=>(qbU a0 z).bind fun v=>bif(v !=(0:Int))then some v else forL (β:=Unit) (fun _ w _ c=>(qbn w.op).bind fun e=>bif(!e)then bif(w.op !=(1:Int))then some (10)else c ()  else c ()) (fun _=>forL (β:=Unit) (fun _ f _ g=>(qbn f.op).bind fun h=>bif h then some (10)else g ()) (fun _=>(qbi fuel a).bind fun j=>forL (β:=Unit) (fun _ l _ m=>(qav fuel l).bind fun p=>forL (β:=Unit) (fun _ q _ r=>(qcR j q).bind fun t=>bif(!t)then some (17)else r ()) (fun _=>m ()) 0 p ()) (fun _=>some (0)) 0 a.fu ()) 0 a.fx ()) 0 a.fu ()) 0 x ()
def qg8:Tb:={ls:=[(0,⟨Nat×Unit,[0,3,5],[],fun s e w=>([(6,.int .i64 (s.1:Int))],[]),[16]⟩),(2,⟨Nat×Unit,[3],[],fun s e w=>([(9,.int .i64 (s.1:Int))],[]),[3,3]⟩),(4,⟨Nat×Unit,[3],[],fun s e w=>([(10,.int .i64 (s.1:Int))],[]),[3,4]⟩),(6,⟨Nat×Unit,[3,11],[],fun s e w=>([(12,.int .i64 (s.1:Int))],[]),[3,3]⟩),(8,⟨Nat×Unit,[3,11,12,13],[],fun s e w=>([(14,.int .i64 (s.1:Int))],[]),[98]⟩)]}
instance(fuel:Nat)(a0:List S_api_Decl)(a:qs):Cb prog 151 (qah fuel a0 a) [.lst (a0.map qH),qo a] (fun res=>.int .i64 res):=kC qg8 func151 rfl (by unfold qah;exact wS)
def qa3(fuel:Nat)(a0:List S_api_Decl)(a:qs):Option Int:=(qaf a).bind fun c=>(qat a).bind fun q=>bif((c.length:Int)==(0:Int))then some (6)else bif(decide ((c.length:Int)>(4:Int)))then some (6)else bif(decide ((a.fu.length:Int)>(12:Int)))then some (6)else bif(decide ((a.fx.length:Int)>(12:Int)))then some (6)else forL (β:=Unit) (fun _ r _ d=>(qdY r).bind fun e=>bif(!e)then some (2)else d ()) (fun _=>forL (β:=Unit) (fun _ f _ g=>(qef f).bind fun h=>bif(!h)then some (2)else g ()) (fun _=>(qch fuel a).bind fun b=>forL (β:=Unit) (fun i12 j _ l=>bif(j !=(i12:Int))then some (2)else l ()) (fun _=>bif(a.fF !=(b.length:Int))then some (2)else bif(!(a.fy.toList==(⟨#[]⟩:ByteArray).toList))then (qlJ a.fy).bind fun m=>bif(!m)then some (7)else (qah fuel a0 a).bind fun n=>some n   else (qah fuel a0 a).bind fun p=>some p) 0 b ()) 0 q ()) 0 c ()
def qgE:Tb:={ls:=[(0,⟨Nat×Unit,[0,3,5,6],[],fun s e w=>([(7,.int .i64 (s.1:Int))],[]),[16]⟩),(2,⟨Nat×Unit,[0,3,6],[],fun s e w=>([(8,.int .i64 (s.1:Int))],[]),[6]⟩),(4,⟨Nat×Unit,[0,3,9],[],fun s e w=>([(10,.int .i64 (s.1:Int))],[]),[60]⟩)]}
instance(fuel:Nat)(a0:List S_api_Decl)(a:qs):Cb prog 81 (qa3 fuel a0 a) [.lst (a0.map qH),qo a] (fun res=>.int .i64 res):=kC qgE func81 rfl (by unfold qa3;exact wS)
def qbV(fuel:Nat)(a0:qf):Option (Int×Int):=bif(decide ((a0.fD.length:Int)>(30:Int)))then some ((-1),6)else forL (β:=Unit) (fun i2 a _ b=>(qlJ a.fy).bind fun c=>bif(!c)then some ((-1),7)else bif(decide (a.fH<(0:Int)))then some ((-1),9)else bif(decide (a.fH>(6:Int)))then some ((-1),9)else (subO a0.fD 0 (i2:Int)).bind fun d=>(qX d a.fy a.fH).bind fun e=>bif e then some ((-1),8)else b ()) (fun _=>bif(decide ((a0.fe.length:Int)>(40:Int)))then some ((-1),6)else forL (β:=Unit) (fun i5 h _ f=>(qa3 fuel a0.fD h).bind fun g=>bif(g !=(0:Int))then some ((i5:Int),g)else f ()) (fun _=>some (0,0)) 0 a0.fe ()) 0 a0.fD ()
def qh0:Tb:={fz:=[(6,[5])],ls:=[(0,⟨Nat×Unit,[1],[],fun s e w=>([(4,.int .i64 (s.1:Int))],[]),[10]⟩),(3,⟨Nat×Unit,[1],[],fun s e w=>([(6,.int .i64 (s.1:Int))],[]),[50]⟩)]}
instance(fuel:Nat)(a0:qf):Cb prog 20 (qbV fuel a0) [qj a0] (fun res=>.tup [.int .i64 res.1,.int .i64 res.2]):=kC qh0 func20 rfl (by unfold qbV;exact wS)
def qcX(a0:List (Int×At)):Option Bool:=bif(decide ((a0.length:Int)>(500:Int)))then some false else forL (β:=Unit) (fun i2 b _ a=>bif(decide (b.1<(1:Int)))then some false else bif(decide ((i2:Int)>(0:Int)))then (getI a0 (wr ((i2:Int)-(1:Int)))).bind fun d=>bif(decide (d.1≥b.1))then some false else (qdY b.2).bind fun e=>bif(!e)then some false else a ()     else (qdY b.2).bind fun c=>bif(!c)then some false else a ()) (fun _=>some true) 0 a0 ()
def qhR:Tb:={ls:=[(0,⟨Nat×Unit,[0],[],fun s e w=>([(3,.int .i64 (s.1:Int))],[]),[5]⟩)]}
instance(a0:List (Int×At)):Cb prog 82 (qcX a0) [.lst (a0.map zt)] (fun res=>.bool res):=kC qhR func82 rfl (by unfold qcX;exact wS)
def qc9(fuel:Nat)(a0:T):Option (List Int):=(qT fuel [] a0).bind fun a=>some a
def qiF:Tb:={nl:=[(1,[(3,1,false)])]}
instance(fuel:Nat)(a0:T):Cb prog 87 (qc9 fuel a0) [zg a0] (fun res=>.lst (res.map (D.int .i64))):=kC qiF func87 rfl (by unfold qc9;exact wS)
def qbK(a0:List (Int×T))(c:Int):Option (T×Bool):=forL (β:=Unit) (fun _ b _ a=>bif(b.1==c)then some (b.2,true)else a ()) (fun _=>some ((T.mk 0 0 ⟨#[]⟩ []),false)) 0 a0 ()
def qhx:Tb:={ls:=[(0,⟨Nat×Unit,[0,1,4],[],fun s e w=>([(6,.int .i64 (s.1:Int))],[]),[0]⟩)]}
instance(a0:List (Int×T))(a:Int):Cb prog 155 (qbK a0 a) [.lst (a0.map zw),.int .i64 a] (fun res=>.tup [zg res.1,.bool res.2]):=kC qhx func155 rfl (by unfold qbK;exact wS)
def qd6(fuel:Nat)(a0:List (Int×T)):Option Bool:=forL (β:=Unit) (fun _ c _ a=>(qc9 fuel c.2).bind fun d=>forL (β:=Unit) (fun _ e _ b=>(qbK a0 e).bind fun f=>bif f.2 then some false else b ()) (fun _=>a ()) 0 d ()) (fun _=>some true) 0 a0 ()
def qhT:Tb:={fz:=[(8,[6])],ls:=[(0,⟨Nat×Unit,[0],[],fun s e w=>([(3,.int .i64 (s.1:Int))],[]),[0]⟩),(2,⟨Nat×Unit,[0,3,4],[],fun s e w=>([(5,.int .i64 (s.1:Int))],[]),[19]⟩)]}
instance(fuel:Nat)(a0:List (Int×T)):Cb prog 153 (qd6 fuel a0) [.lst (a0.map zw)] (fun res=>.bool res):=kC qhT func153 rfl (by unfold qd6;exact wS)
def qcT(fuel:Nat)(a0:List (Int×T)):Option Bool:=forL (β:=Unit) (fun i1 a _ b=>bif(decide (a.1<(0:Int)))then some false else bif(decide (a.1>(1048576:Int)))then some false else bif(decide ((i1:Int)>(0:Int)))then (getI a0 (wr ((i1:Int)-(1:Int)))).bind fun d=>bif(decide (a.1≤d.1))then some false else (qeM a.2).bind fun e=>bif(!e)then some false else b ()     else (qeM a.2).bind fun c=>bif(!c)then some false else b ()) (fun _=>(qd6 fuel a0).bind fun f=>some f) 0 a0 ()
def qh3:Tb:={ls:=[(0,⟨Nat×Unit,[0],[],fun s e w=>([(3,.int .i64 (s.1:Int))],[]),[0]⟩)]}
instance(fuel:Nat)(a0:List (Int×T)):Cb prog 83 (qcT fuel a0) [.lst (a0.map zw)] (fun res=>.bool res):=kC qh3 func83 rfl (by unfold qcT;exact wS)
def qeJ(a0:List Int)(b:Int):Option Bool:=forL (β:=Unit) (fun _ c _ a=>bif(c==b)then some true else a ()) (fun _=>some false) 0 a0 ()
def qjg:Tb:={ls:=[(0,⟨Nat×Unit,[0,1],[],fun s e w=>([(5,.int .i64 (s.1:Int))],[]),[0]⟩)]}
instance(a0:List Int)(a:Int):Cb prog 220 (qeJ a0 a) [.lst (a0.map (D.int .i64)),.int .i64 a] (fun res=>.bool res):=kC qjg func220 rfl (by unfold qeJ;exact wS)
def qd9(a0:qu):Option Bool:=bif(decide (a0.fp<(0:Int)))then some false else bif(decide (a0.fp≥(40:Int)))then some false else bif(decide ((a0.ff.length:Int)<(1:Int)))then some false else bif(decide ((a0.ff.length:Int)>(4:Int)))then some false else forL (β:=Unit) (fun i5 b _ a=>bif(decide (b<(1:Int)))then some false else (subO a0.ff 0 (i5:Int)).bind fun c=>(qeJ c b).bind fun d=>bif d then some false else a ()) (fun _=>some true) 0 a0.ff ()
def qih:Tb:={ls:=[(0,⟨Nat×Unit,[1],[],fun s e w=>([(3,.int .i64 (s.1:Int))],[]),[15]⟩)]}
instance(a0:qu):Cb prog 154 (qd9 a0) [qp a0] (fun res=>.bool res):=kC qih func154 rfl (by unfold qd9;exact wS)
def qal(a0:Int)(a:Int):Option Int:=bif(decide (a0<a))then some ((-1))else bif(decide (a0>a))then some (1)else some (0)
instance(a0:Int)(a:Int):Cb prog 211 (qal a0 a) [.int .i64 a0,.int .i64 a] (fun res=>.int .i64 res):=kC {} func211 rfl (by unfold qal;exact wS)
def qaJ(a0:qu)(d:qu):Option Int:=(qal a0.fp d.fp).bind fun j=>jn (β:=Int) (fun a=>bif(j==(0:Int))then (qal (a0.ff.length:Int) (d.ff.length:Int)).bind fun e=>a e  else a j) (fun l=>jn (β:=Int) (fun b=>forL (β:=Int) (fun i4 m c f=>bif(decide ((i4:Int)<(d.ff.length:Int)))then bif(c==(0:Int))then (getI d.ff (i4:Int)).bind fun g=>(qal m g).bind fun h=>f h   else b c  else b c) (fun c=>b c) 0 a0.ff l) (fun n=>some n))
def qhe:Tb:={ls:=[(0,⟨Nat×Int,[2,3],[],fun s e w=>([(5,.int .i64 s.2),(6,.int .i64 (s.1:Int))],[]),[2,1]⟩)],bs:=[(0,⟨Int,[],[],fun s e w=>([(5,.int .i64 s)],[]),[]⟩)],js:=[(4,⟨Int,[2,3],[],fun s e w=>([(5,.int .i64 s)],[]),[]⟩)]}
instance(a0:qu)(a:qu):Cb prog 141 (qaJ a0 a) [qp a0,qp a] (fun res=>.int .i64 res):=kC qhe func141 rfl (by unfold qaJ;exact wS)
def qcW(a0:List qu):Option Bool:=bif(decide ((a0.length:Int)>(5000:Int)))then some false else forL (β:=Unit) (fun i2 b _ a=>(qd9 b).bind fun c=>bif(!c)then some false else bif(decide ((i2:Int)>(0:Int)))then (getI a0 (wr ((i2:Int)-(1:Int)))).bind fun d=>(qaJ d b).bind fun e=>bif(decide (e≥(0:Int)))then some false else a ()    else a ()) (fun _=>some true) 0 a0 ()
def qh1:Tb:={ls:=[(0,⟨Nat×Unit,[0],[],fun s e w=>([(3,.int .i64 (s.1:Int))],[]),[5]⟩)]}
instance(a0:List qu):Cb prog 84 (qcW a0) [.lst (a0.map qp)] (fun res=>.bool res):=kC qh1 func84 rfl (by unfold qcW;exact wS)
def qdD(fuel:Nat)(a0:At):Option (List Int):=(qac fuel a0.ts).bind fun a=>some a
instance(fuel:Nat)(a0:At):Cb prog 86 (qdD fuel a0) [zK a0] (fun res=>.lst (res.map (D.int .i64))):=kC {} func86 rfl (by unfold qdD;exact wS)
def qbq(a0:List Int)(c:Int)(d:List (Int×T)):Option Bool:=forL (β:=Unit) (fun _ b _ a=>bif(decide (b≥c))then some false else (qbK d b).bind fun e=>bif e.2 then some false else a ()) (fun _=>some true) 0 a0 ()
def qiG:Tb:={fz:=[(6,[8])],ls:=[(0,⟨Nat×Unit,[0,1,2],[],fun s e w=>([(7,.int .i64 (s.1:Int))],[]),[0]⟩)]}
instance(a0:List Int)(a:Int)(b:List (Int×T)):Cb prog 85 (qbq a0 a b) [.lst (a0.map (D.int .i64)),.int .i64 a,.lst (b.map zw)] (fun res=>.bool res):=kC qiG func85 rfl (by unfold qbq;exact wS)
def qcN(a0:qs):Option Bool:=some (((a0.ft.length:Int)==(0:Int)))
instance(a0:qs):Cb prog 88 (qcN a0) [qo a0] (fun res=>.bool res):=kC {} func88 rfl (by unfold qcN;exact wS)
def qd5(a0:qs):Option (List At):=(appO 40 [] a0.fm).bind fun a=>(appO 40 a a0.ft).bind fun b=>some b
def qhS:Tb:={ow:=[2,3]}
instance(a0:qs):Cb prog 89 (qd5 a0) [qo a0] (fun res=>.lst (res.map zK)):=kC qhS func89 rfl (by unfold qd5;exact wS)
end
noncomputable section
def qep(a0:List (Int×At))(c:Int):Option (At×Bool):=forL (β:=Unit) (fun _ b _ a=>bif(b.1==c)then some (b.2,true)else a ()) (fun _=>some ((⟨⟨#[]⟩,[]⟩:At),false)) 0 a0 ()
def qio:Tb:={ls:=[(0,⟨Nat×Unit,[0,1,4],[],fun s e w=>([(6,.int .i64 (s.1:Int))],[]),[0]⟩)]}
instance(a0:List (Int×At))(a:Int):Cb prog 90 (qep a0 a) [.lst (a0.map zt),.int .i64 a] (fun res=>.tup [zK res.1,.bool res.2]):=kC qio func90 rfl (by unfold qep;exact wS)
def qbH(fuel:Nat)(a0:qf)(f:List (Int×At))(e:List (Int×T))(a3:List qu)(a4:Int)(a5:Int):Option Bool:=(qcX f).bind fun z=>bif(!z)then some false else (qcT fuel e).bind fun A=>bif(!A)then some false else (qcW a3).bind fun B=>bif(!B)then some false else bif(decide (a4<(1:Int)))then some false else bif(decide (a4>(2147483648:Int)))then some false else bif(decide (a5<(0:Int)))then some false else bif(decide (a5>(1048576:Int)))then some false else forL (β:=Unit) (fun _ b _ g=>bif(decide (b.1≥a4))then some false else (qX a0.fD b.2.n (b.2.ts.length:Int)).bind fun h=>bif(!h)then some false else (qdD fuel b.2).bind fun j=>(qbq j a5 e).bind fun l=>bif(!l)then some false else g ()) (fun _=>forL (β:=Unit) (fun _ c _ m=>bif(decide (c.1≥a5))then some false else (qc9 fuel c.2).bind fun p=>(qbq p a5 e).bind fun q=>bif(!q)then some false else m ()) (fun _=>forL (β:=Unit) (fun _ a _ r=>bif(decide (a.fp<(0:Int)))then some false else bif(decide (a.fp≥(a0.fe.length:Int)))then some false else (getI a0.fe a.fp).bind fun d=>(qcN d).bind fun t=>bif(!t)then some false else (qd5 d).bind fun u=>bif((a.ff.length:Int) !=(u.length:Int))then some false else forL (β:=Unit) (fun _ v _ w=>(qep f v).bind fun x=>bif(!x.2)then some false else w ()) (fun _=>r ()) 0 a.ff ()) (fun _=>some true) 0 a3 ()) 0 e ()) 0 f ()
def qhI:Tb:={fz:=[(6,[14]),(19,[17]),(25,[19])],rg:=[(19,[(0,0),(1,0),(2,0),(3,0),(4,0),(5,0),(6,0),(7,0),(8,0),(9,1),(10,1)])],ls:=[(0,⟨Nat×Unit,[1,2,3,4,5,6],[],fun s e w=>([(13,.int .i64 (s.1:Int))],[]),[1]⟩),(2,⟨Nat×Unit,[1,2,3,5,6],[],fun s e w=>([(15,.int .i64 (s.1:Int))],[]),[2]⟩),(4,⟨Nat×Unit,[1,3,6],[],fun s e w=>([(16,.int .i64 (s.1:Int))],[]),[3]⟩),(6,⟨Nat×Unit,[1,3,6,16],[],fun s e w=>([(18,.int .i64 (s.1:Int))],[]),[153]⟩)]}
instance(fuel:Nat)(a0:qf)(a:List (Int×At))(b:List (Int×T))(a3:List qu)(a4:Int)(a5:Int):Cb prog 21 (qbH fuel a0 a b a3 a4 a5) [qj a0,.lst (a.map zt),.lst (b.map zw),.lst (a3.map qp),.int .i64 a4,.int .i64 a5] (fun res=>.bool res):=kC qhI func21 rfl (by unfold qbH;exact wS)
instance:EF prog 167 qD qE 3:=⟨qd1,fun _=>rfl⟩
def qct(a0:qf):Option (List qD):=forL (β:=(List qD)) (fun i5 b c d=>(zaN (wr ((wr ((b.fm.length:Int)+(b.ft.length:Int)))-(1:Int)))).bind fun e=>forD (β:=(List qD)) (fun a f g=>(appO 24 f [(⟨(i5:Int),(a:Int),(decide ((a:Int)<(b.fm.length:Int)))⟩:qD)]).bind fun h=>g h) (fun f=>d f) e c) (fun c=>some c) 0 a0.fe []
def qjk:Tb:={ow:=[2,3],ls:=[(0,⟨Nat×(List qD),[1],[3],fun s e w=>([(3,.own (oU e 3) (s.2.map qE)),(4,.int .i64 (s.1:Int))],[.row (oU e 3) s.2.length 167 3]),[0,1]⟩),(2,⟨Int×(List qD),[1,4,5],[3],fun s e w=>([(3,.own (oU e 3) (s.2.map qE)),(6,.int .i64 s.1)],[.row (oU e 3) s.2.length 167 3]),[30]⟩)]}
instance(a0:qf):Cb prog 22 (qct a0) [qj a0] (fun res=>.lst (res.map qE)):=kC qjk func22 rfl (by unfold qct;exact wS)
def qbT(a0:qf)(a:Gl):Option Bool:=(qef a).bind fun b=>bif(!b)then some false else bif(decide (a.op>(4:Int)))then some false else bif(a.op !=(0:Int))then some true else (qX a0.fD a.n (a.ts.length:Int)).bind fun c=>some c
instance(a0:qf)(a:Gl):Cb prog 23 (qbT a0 a) [qj a0,zG a] (fun res=>.bool res):=kC {} func23 rfl (by unfold qbT;exact wS)
def qb5(fuel:Nat)(a0:Gl)(a:Int)(b:List (Int×T)):Option Bool:=(qav fuel a0).bind fun c=>(qbq c a b).bind fun d=>some d
instance(fuel:Nat)(a0:Gl)(a:Int)(b:List (Int×T)):Cb prog 24 (qb5 fuel a0 a b) [zG a0,.int .i64 a,.lst (b.map zw)] (fun res=>.bool res):=kC {} func24 rfl (by unfold qb5;exact wS)
def qea(a0:Gl):Option Bool:=bif(a0.op==(0:Int))then bif(a0.n.toList==(⟨#[]⟩:ByteArray).toList)then some (((a0.ts.length:Int)==(0:Int)))else some false else some false
instance(a0:Gl):Cb prog 25 (qea a0) [zG a0] (fun res=>.bool res):=kC {} func25 rfl (by unfold qea;exact wS)
def qbW(fuel:Nat)(a0:qf)(a:qe):Option Bool:=(qbV fuel a0).bind fun g=>bif(g.2 !=(0:Int))then some false else bif(decide ((a.fk.length:Int)>(1000:Int)))then some false else (qbH fuel a0 a.fh a.fo a.fC a.fl a.fg).bind fun h=>bif(!h)then some false else (qct a0).bind fun j=>forL (β:=Unit) (fun _ b _ c=>bif(b.fj==(0:Int))then bif(b.fA !=(0:Int))then some false else (qbT a0 b.fi).bind fun d=>bif(!d)then some false else (qb5 fuel b.fi a.fg a.fo).bind fun e=>bif(!e)then some false else c ()      else bif(decide (b.fj<(1:Int)))then some false else bif(decide (b.fj≥a.fl))then some false else (qea b.fi).bind fun f=>bif(!f)then some false else bif(decide (b.fA<((-1):Int)))then some false else bif(decide (b.fA>(j.length:Int)))then some false else c ()) (fun _=>some true) 0 a.fk ()
def qid:Tb:={fz:=[(10,[9])],ls:=[(0,⟨Nat×Unit,[2,3,7],[],fun s e w=>([(8,.int .i64 (s.1:Int))],[]),[20]⟩)]}
instance(fuel:Nat)(a0:qf)(a:qe):Cb prog 7 (qbW fuel a0 a) [qj a0,qh a] (fun res=>.bool res):=kC qid func7 rfl (by unfold qbW;exact wS)
def qI(a0:Bool)(a:Int):Option (Int⊕(Unit)):=bif(!a0)then some (.inl a)else some (.inr ())
instance(a0:Bool)(a:Int):Cx prog 162 (qI a0 a) [.bool a0,.int .i64 a] (fun r=>.tup []) (fun c=>.ifc 282 (.agg [.int .i64 c])):=kX {} func162 rfl (by unfold qI;exact wX)
instance:MpI prog 237 S_api_Decl Bool qH D.bool false:=⟨_,_,_,_,underlying237,qn0.ok,qwn⟩
def qeu(a:qf):Option (Int⊕(Unit)):=bindX (qI (decide ((a.fD.length:Int)≤(30:Int))) 6) fun n=>forL (β:=(List (S_api_Decl×Bool))) (fun _ b c d=>(qm3 b.fy).bind fun g=>bindX (qI g 7) fun p=>bif(decide (b.fH≥(0:Int)))then bindX (qI (decide (b.fH≤(6:Int))) 9) fun h=>bindX (qI (!((zk c b).getD false)) 8) fun j=>(mputO c b true).bind fun e=>d e    else bindX (qI false 9) fun l=>bindX (qI (!((zk c b).getD false)) 8) fun m=>(mputO c b true).bind fun f=>d f) (fun c=>bindX (qI (decide ((a.fe.length:Int)≤(40:Int))) 6) fun q=>some (.inr ())) 0 a.fD []
def qmQ:Tb:={fz:=[(4,[3])],ls:=[(0,⟨Nat×(List (S_api_Decl×Bool)),[0,1,11,12],[1],fun s e w=>([(13,.int .i64 (s.1:Int))],[.map (oB e 1) (zb qH D.bool s.2)]),[6]⟩)]}
instance(a:qf):Cx prog 161 (qeu a) [.ptr (qj a)] (fun r=>.tup []) (fun c=>.ifc 282 (.agg [.int .i64 c])):=kX qmQ func161 rfl (by unfold qeu;exact wX)
instance:AtI prog 285 57 2:=⟨qmS,qlK⟩
instance:AtI prog 286 26 2:=⟨qmT,qp7⟩
instance:EF prog 57 (List At) (fun(l:List At)=>D.lst (l.map zK)) 1:=⟨fun _=>rfl,fun _=>rfl⟩
def qc2(a0:List (List At)):Option (List Int):=forL (β:=(List Int)) (fun _ h a b=>forL (β:=(List Int)) (fun _ c d e=>(qjG c).bind fun f=>(appO 8 d f).bind fun g=>e g) (fun d=>b d) 0 h a) (fun a=>some a) 0 a0 []
def qj4:Tb:={ow:=[2,3],fz:=[(7,[7])],ls:=[(0,⟨Nat×(List Int),[8,9],[3],fun s e w=>([(3,.own (oU e 3) (s.2.map (D.int .i64))),(10,.int .i64 (s.1:Int))],[.row (oU e 3) s.2.length 3 1]),[9]⟩),(2,⟨Nat×(List Int),[8,9,10,14,15],[3],fun s e w=>([(3,.own (oU e 3) (s.2.map (D.int .i64))),(16,.int .i64 (s.1:Int))],[.row (oU e 3) s.2.length 3 1]),[15]⟩)]}
instance(a0:List (List At)):Co prog 226 (qc2 a0) (fun(nm:Unit)=>⟨[.lst (a0.map (fun(l:List At)=>D.lst (l.map zK)))],[],fun res d σ=>∃(a:Value),d= .own a (res.map (D.int .i64))∧σ=[.row a res.length 3 1]⟩):=kO (fun _=>qj4) func226 rfl (by unfold qc2;exact wO)
instance:EF prog 26 (List Gl) (fun(l:List Gl)=>D.lst (l.map zG)) 1:=⟨fun _=>rfl,fun _=>rfl⟩
def qbX(a0:List (List Gl)):Option (List Int):=forL (β:=(List Int)) (fun _ h a b=>forL (β:=(List Int)) (fun _ c d e=>(qpy c).bind fun f=>(appO 8 d f).bind fun g=>e g) (fun d=>b d) 0 h a) (fun a=>some a) 0 a0 []
def ql2:Tb:={ow:=[2,3],fz:=[(7,[7])],ls:=[(0,⟨Nat×(List Int),[8,9],[3],fun s e w=>([(3,.own (oU e 3) (s.2.map (D.int .i64))),(10,.int .i64 (s.1:Int))],[.row (oU e 3) s.2.length 3 1]),[9]⟩),(2,⟨Nat×(List Int),[8,9,10,14,15],[3],fun s e w=>([(3,.own (oU e 3) (s.2.map (D.int .i64))),(16,.int .i64 (s.1:Int))],[.row (oU e 3) s.2.length 3 1]),[15]⟩)]}
instance(a0:List (List Gl)):Cb prog 227 (qbX a0) [.lst (a0.map (fun(l:List Gl)=>D.lst (l.map zG)))] (fun res=>.lst (res.map (D.int .i64))):=kC ql2 func227 rfl (by unfold qbX;exact wS)
def qen(a0:S_api_Decl)(a:ByteArray):Option Bool:=some ((a0.fy.toList==a.toList))
instance(a0:S_api_Decl)(a:ByteArray):Cb prog 273 (qen a0 a) [qH a0,.ptr (.str a)] (fun res=>.bool res):=kC {} func273 rfl (by unfold qen;exact wS)
def qdQ(a0:List S_api_Decl)(a:ByteArray):Option Int:=forL (β:=Unit) (fun i1 c _ b=>(qen c a).bind fun d=>bif d then some ((i1:Int))else b ()) (fun _=>some ((-1))) 0 a0 ()
def qjf:Tb:={ls:=[(0,⟨Nat×Unit,[0,1,7],[],fun s e w=>([(8,.int .i64 (s.1:Int))],[]),[7]⟩)]}
instance(a0:List S_api_Decl)(a:ByteArray):Cb prog 302 (qdQ a0 a) [.lst (a0.map qH),.clo (.func 273) [] [.ptr (.str a)]] (fun res=>.int .i64 res):=kC qjf func302 rfl (by unfold qdQ;exact wS)
def qcA(a0:List S_api_Decl)(a:ByteArray):Option Bool:=(qdQ a0 a).bind fun b=>some ((decide (b≥(0:Int))))
instance(a0:List S_api_Decl)(a:ByteArray):Cb prog 272 (qcA a0 a) [.lst (a0.map qH),.clo (.func 273) [] [.ptr (.str a)]] (fun res=>.bool res):=kC {} func272 rfl (by unfold qcA;exact wS)
def qa2(a0:List S_api_Decl)(b:S_api_Decl):Option Int:=forL (β:=Unit) (fun i1 c _ a=>bif(decide (b=c))then some ((i1:Int))else a ()) (fun _=>some ((-1))) 0 a0 ()
def qfD:Tb:={ls:=[(0,⟨Nat×Unit,[0,3,7],[],fun s e w=>([(8,.int .i64 (s.1:Int))],[]),[7]⟩)]}
instance(a0:List S_api_Decl)(a:S_api_Decl):Cb prog 278 (qa2 a0 a) [.lst (a0.map qH),qH a] (fun res=>.int .i64 res):=kC qfD func278 rfl (by unfold qa2;exact wS)
def qaE(a0:List S_api_Decl)(a:S_api_Decl):Option Bool:=(qa2 a0 a).bind fun b=>some ((decide (b≥(0:Int))))
instance(a0:List S_api_Decl)(a:S_api_Decl):Cb prog 240 (qaE a0 a) [.lst (a0.map qH),qH a] (fun res=>.bool res):=kC {} func240 rfl (by unfold qaE;exact wS)
def qcx(a0:List S_api_Decl)(a:ByteArray)(b:Int):Option Bool:=(qaE a0 (⟨a,b⟩:S_api_Decl)).bind fun c=>some c
instance(a0:List S_api_Decl)(a:ByteArray)(b:Int):Cb prog 175 (qcx a0 a b) [.lst (a0.map qH),.str a,.int .i64 b] (fun res=>.bool res):=kC {} func175 rfl (by unfold qcx;exact wS)
def qbZ(a0:List S_api_Decl)(a:ByteArray)(b:Int):Option (Int⊕(Unit)):=(qcA a0 a).bind fun c=>bindX (qI c 7) fun e=>(qcx a0 a b).bind fun d=>bindX (qI d 9) fun f=>some (.inr ())
instance(a0:List S_api_Decl)(a:ByteArray)(b:Int):Cx prog 228 (qbZ a0 a b) [.lst (a0.map qH),.str a,.int .i64 b] (fun r=>.tup []) (fun c=>.ifc 282 (.agg [.int .i64 c])):=kX {} func228 rfl (by unfold qbZ;exact wX)
def qbA(a0:List S_api_Decl)(c:List Gl):Option (Int⊕(Unit)):=forL (β:=Unit) (fun _ b _ a=>bif(b.op==(0:Int))then bindX (qbZ a0 b.n (b.ts.length:Int)) fun d=>a ()  else a ()) (fun _=>some (.inr ())) 0 c ()
def qoB:Tb:={fz:=[(2,[5])],ls:=[(0,⟨Nat×Unit,[0,6,7],[],fun s e w=>([(8,.int .i64 (s.1:Int))],[]),[7]⟩)]}
instance(a0:List S_api_Decl)(a:List Gl):Cx prog 229 (qbA a0 a) [.lst (a0.map qH),.lst (a.map zG)] (fun r=>.tup []) (fun c=>.ifc 282 (.agg [.int .i64 c])):=kX qoB func229 rfl (by unfold qbA;exact wX)
def qcC(a0:Int):Option Bool:=bif(decide (a0≥(5:Int)))then some ((decide (a0≤(12:Int))))else some false
instance(a0:Int):Cb prog 230 (qcC a0) [.int .i64 a0] (fun res=>.bool res):=kC {} func230 rfl (by unfold qcC;exact wS)
def qd7(a0:List (List At)):Option (List Int):=forL (β:=(List Int)) (fun _ h a b=>forL (β:=(List Int)) (fun _ c d e=>(qjG c).bind fun f=>(appO 8 d f).bind fun g=>e g) (fun d=>b d) 0 h a) (fun a=>some a) 0 a0 []
def qlU:Tb:={ow:=[2,3],fz:=[(7,[7])],ls:=[(0,⟨Nat×(List Int),[8,9],[3],fun s e w=>([(3,.own (oU e 3) (s.2.map (D.int .i64))),(10,.int .i64 (s.1:Int))],[.row (oU e 3) s.2.length 3 1]),[9]⟩),(2,⟨Nat×(List Int),[8,9,10,14,15],[3],fun s e w=>([(3,.own (oU e 3) (s.2.map (D.int .i64))),(16,.int .i64 (s.1:Int))],[.row (oU e 3) s.2.length 3 1]),[15]⟩)]}
instance(a0:List (List At)):Cb prog 226 (qd7 a0) [.lst (a0.map (fun(l:List At)=>D.lst (l.map zK)))] (fun res=>.lst (res.map (D.int .i64))):=kC qlU func226 rfl (by unfold qd7;exact wS)
def qb3(a0:List Int)(b:Int):Option Int:=forL (β:=Unit) (fun i1 c _ a=>bif(b==c)then some ((i1:Int))else a ()) (fun _=>some ((-1))) 0 a0 ()
def qi6:Tb:={ls:=[(0,⟨Nat×Unit,[0,1,7],[],fun s e w=>([(8,.int .i64 (s.1:Int))],[]),[7]⟩)]}
instance(a0:List Int)(a:Int):Cb prog 274 (qb3 a0 a) [.lst (a0.map (D.int .i64)),.int .i64 a] (fun res=>.int .i64 res):=kC qi6 func274 rfl (by unfold qb3;exact wS)
def qK(a0:List Int)(a:Int):Option Bool:=(qb3 a0 a).bind fun b=>some ((decide (b≥(0:Int))))
instance(a0:List Int)(a:Int):Cb prog 231 (qK a0 a) [.lst (a0.map (D.int .i64)),.int .i64 a] (fun res=>.bool res):=kC {} func231 rfl (by unfold qK;exact wS)
def qc5(a:qs)(b:List S_api_Decl):Option (Int⊕(Unit)):=jn (β:=Unit) (fun c=>bif(decide ((wr ((a.fm.length:Int)+(a.ft.length:Int)))>(0:Int)))then bif(decide ((wr ((a.fm.length:Int)+(a.ft.length:Int)))≤(4:Int)))then bif(decide ((a.fu.length:Int)≤(12:Int)))then bindX (qI (decide ((a.fx.length:Int)≤(12:Int))) 6) fun r86=>c ()  else bindX (qI false 6) fun r87=>c ()   else bindX (qI false 6) fun r88=>c ()   else bindX (qI false 6) fun r89=>c ()) (fun _=>forC (β:=Unit) (fun g _ A=>(getI [a.fm,a.ft] g).bind fun B=>forL (β:=Unit) (fun _ C _ j=>(qdY C).bind fun E=>bindX (qI E 2) fun r82=>j ()) (fun _=>A ()) 0 B ()) (fun _=>forC (β:=Unit) (fun h _ F=>(getI [a.fu,a.fx] h).bind fun G=>forL (β:=Unit) (fun _ H _ l=>(qef H).bind fun I=>bindX (qI I 2) fun r76=>l ()) (fun _=>F ()) 0 G ()) (fun _=>(qc2 [a.fm,a.ft]).bind fun r3=>(qbX [a.fu,a.fx]).bind fun r5=>(appO 8 r3 r5).bind fun l6=>forL (β:=Int) (fun _ f n9 m=>bindX (qI (decide (f≤n9)) 2) fun r69=>bif(f==n9)then m (wr (n9+(1:Int))) else m n9) (fun n9=>bindX (qI (a.fF==n9) 2) fun r12=>bif(a.fy.toList==(⟨#[]⟩:ByteArray).toList)then bindX (qI true 7) fun r14=>forC (β:=Unit) (fun d _ J=>(getI [a.fm,a.ft] d).bind fun K=>forL (β:=Unit) (fun _ p _ L=>bindX (qbZ b p.n (p.ts.length:Int)) fun r40=>L ()) (fun _=>J ()) 0 K ()) (fun _=>bindX (qbA b a.fu) fun r16=>bindX (qbA b a.fx) fun r17=>forL (β:=Unit) (fun _ q _ r=>(qcC q.op).bind fun M=>bif M then bindX (qI true 10) fun r34=>r ()  else bindX (qI (q.op==(1:Int)) 10) fun r35=>r ()) (fun _=>forL (β:=Unit) (fun _ N _ O=>(qcC N.op).bind fun Q=>bindX (qI (!Q) 10) fun r30=>O ()) (fun _=>(qd7 [a.fm,a.ft]).bind fun R=>(qbX [a.fu]).bind fun S=>forL (β:=Unit) (fun _ U _ V=>(qK R U).bind fun W=>bindX (qI W 17) fun r27=>V ()) (fun _=>some (.inr ())) 0 S ()) 0 a.fx ()) 0 a.fu ()) (2-0:Int).toNat 0 ()  else (qm3 a.fy).bind fun X=>bindX (qI X 7) fun r42=>forC (β:=Unit) (fun e _ Y=>(getI [a.fm,a.ft] e).bind fun Z=>forL (β:=Unit) (fun _ t _ u=>bindX (qbZ b t.n (t.ts.length:Int)) fun r68=>u ()) (fun _=>Y ()) 0 Z ()) (fun _=>bindX (qbA b a.fu) fun r44=>bindX (qbA b a.fx) fun r45=>forL (β:=Unit) (fun _ v _ w=>(qcC v.op).bind fun r60=>bif r60 then bindX (qI true 10) fun r62=>w ()  else bindX (qI (v.op==(1:Int)) 10) fun r63=>w ()) (fun _=>forL (β:=Unit) (fun _ q49 _ x=>(qcC q49.op).bind fun r57=>bindX (qI (!r57) 10) fun r58=>x ()) (fun _=>(qd7 [a.fm,a.ft]).bind fun r50=>(qbX [a.fu]).bind fun r51=>forL (β:=Unit) (fun _ q53 _ z=>(qK r50 q53).bind fun r54=>bindX (qI r54 17) fun r55=>z ()) (fun _=>some (.inr ())) 0 r51 ()) 0 a.fx ()) 0 a.fu ()) (2-0:Int).toNat 0 ()) 0 l6 0) (2-0:Int).toNat 0 ()) (2-0:Int).toNat 0 ())
def qj6:Tb:={fz:=[(7,[6]),(16,[10]),(35,[17]),(43,[19]),(48,[21])],rg:=[(21,[(0,0),(1,0),(2,0),(3,0),(4,0),(6,0),(7,0),(8,0),(9,0),(10,0),(14,0),(5,1),(11,0),(12,1),(13,0)])],ls:=[(0,⟨Int×Unit,[0,1,55],[56],fun s e w=>([(56,.int .i64 s.1)],[]),[]⟩),(2,⟨Nat×Unit,[0,1,55,56,59,60],[],fun s e w=>([(61,.int .i64 (s.1:Int))],[]),[60]⟩),(4,⟨Int×Unit,[0,1,74],[75],fun s e w=>([(75,.int .i64 s.1)],[]),[]⟩),(6,⟨Nat×Unit,[0,1,74,75,78,79],[],fun s e w=>([(80,.int .i64 (s.1:Int))],[]),[79]⟩),(8,⟨Nat×Int,[0,1,101,102],[],fun s e w=>([(11,.int .i64 s.2),(103,.int .i64 (s.1:Int))],[]),[102]⟩),(10,⟨Int×Unit,[0,1,135],[136],fun s e w=>([(136,.int .i64 s.1)],[]),[]⟩),(12,⟨Nat×Unit,[0,1,135,136,139,140],[],fun s e w=>([(141,.int .i64 (s.1:Int))],[]),[140]⟩),(14,⟨Nat×Unit,[0,163,164],[],fun s e w=>([(165,.int .i64 (s.1:Int))],[]),[164]⟩),(16,⟨Nat×Unit,[0,180,181],[],fun s e w=>([(182,.int .i64 (s.1:Int))],[]),[181]⟩),(18,⟨Nat×Unit,[22,201,202],[],fun s e w=>([(203,.int .i64 (s.1:Int))],[]),[202]⟩)],js:=[(2,⟨Unit,[0,1],[],fun s e w=>([],[]),[]⟩)]}
instance(a:qs)(b:List S_api_Decl):Cx prog 225 (qc5 a b) [.ptr (qo a),.ptr (.lst (b.map qH))] (fun r=>.tup []) (fun c=>.ifc 282 (.agg [.int .i64 c])):=kX qj6 func225 rfl (by unfold qc5;exact wX)
def qeQ(a0:List S_api_Decl)(a:qs):Option Int:=(qc5 a a0).bind fun b=>some ((zae b))
instance(a0:List S_api_Decl)(a:qs):Cb prog 164 (qeQ a0 a) [.lst (a0.map qH),qo a] (fun res=>.int .i64 res):=kC {} func164 rfl (by unfold qeQ;exact wS)
def qdp(a0:qf):Option (Int×Int):=(qeu a0).bind fun b=>bif((zae b) !=(0:Int))then some ((-1),(zae b))else forL (β:=Unit) (fun i3 d _ a=>(qeQ a0.fD d).bind fun c=>bif(c !=(0:Int))then some ((i3:Int),c)else a ()) (fun _=>some (0,0)) 0 a0.fe ()
def qoz:Tb:={ls:=[(0,⟨Nat×Unit,[1,14],[],fun s e w=>([(15,.int .i64 (s.1:Int))],[]),[14]⟩)]}
instance(a0:qf):Cb prog 93 (qdp a0) [qj a0] (fun res=>.tup [.int .i64 res.1,.int .i64 res.2]):=kC qoz func93 rfl (by unfold qdp;exact wS)
def qeF(a0:List (Int×At)):Option Bool:=bif(decide ((a0.length:Int)>(500:Int)))then some false else forL (β:=Int) (fun _ a l2 b=>bif(decide (a.1≤l2))then some false else (qdY a.2).bind fun c=>bif(!c)then some false else b a.1) (fun l2=>some true) 0 a0 0
def qoG:Tb:={fz:=[(6,[5])],ls:=[(0,⟨Nat×Int,[9,10],[],fun s e w=>([(3,.int .i64 s.2),(11,.int .i64 (s.1:Int))],[]),[7]⟩)]}
instance(a0:List (Int×At)):Cb prog 94 (qeF a0) [.lst (a0.map zt)] (fun res=>.bool res):=kC qoG func94 rfl (by unfold qeF;exact wS)
end
end Go.Proofs.YtgcegilpajfdhaaGreat
