/-
 Texts of the seat,merged.
-/
import Derived.Test.YtgcegilpajfdhaaGreatLTF
set_option linter.unusedVariables false
set_option linter.unusedSimpArgs false
set_option linter.unnecessarySimpa false
set_option linter.all false
set_option maxHeartbeats 8000000
namespace Go.Proofs.YtgcegilpajfdhaaGreat
open Go.Proofs.Tryz
noncomputable section
set_option maxRecDepth 100000
open Go.RowKit
noncomputable section
instance:MpI prog 170 Int Unit (D.int .i64) zM ():=⟨_,_,_,_,underlying170,(zaA underlying3),qvW⟩
def qeG(a0:List (Int×T)):Option Bool:=forL (β:=(List (Int×Unit))) (fun i2 a c b=>bif(decide (a.1<(0:Int)))then some false else bif(decide (a.1>(1048576:Int)))then some false else bif(decide ((i2:Int)>(0:Int)))then (getI a0 (wr ((i2:Int)-(1:Int)))).bind fun d=>bif(decide (d.1≥a.1))then some false else (qeM a.2).bind fun e=>bif(!e)then some false else (mputO c a.1 ()).bind fun f=>b f      else (qeM a.2).bind fun g=>bif(!g)then some false else (mputO c a.1 ()).bind fun h=>b h) (fun c=>forL (β:=Unit) (fun _ n _ j=>(qqe n.2).bind fun o=>forL (β:=Unit) (fun _ l _ m=>bif((zk c l).isSome)then some false else m ()) (fun _=>j ()) 0 o ()) (fun _=>some true) 0 a0 ()) 0 a0 []
def qoN:Tb:={fz:=[(4,[5]),(11,[7]),(15,[10])],ls:=[(0,⟨Nat×(List (Int×Unit)),[0,3,15,16],[3],fun s e w=>([(17,.int .i64 (s.1:Int))],[.map (oB e 3) (zb (D.int .i64) zM s.2)]),[13]⟩),(2,⟨Nat×Unit,[3,56,57],[],fun s e w=>([(58,.int .i64 (s.1:Int))],[]),[16]⟩),(4,⟨Nat×Unit,[3,56,57,58,64,65],[],fun s e w=>([(66,.int .i64 (s.1:Int))],[]),[65]⟩)]}
instance(a0:List (Int×T)):Cb prog 95 (qeG a0) [.lst (a0.map zw)] (fun res=>.bool res):=kC qoN func95 rfl (by unfold qeG;exact wS)
def qc1(a0:qu):Option Bool:=bif(decide (a0.fp<(0:Int)))then some false else bif(decide (a0.fp≥(40:Int)))then some false else bif(decide ((a0.ff.length:Int)<(1:Int)))then some false else bif(decide ((a0.ff.length:Int)>(4:Int)))then some false else forL (β:=Unit) (fun i5 b _ a=>bif(decide (b<(1:Int)))then some false else (subO a0.ff 0 (i5:Int)).bind fun c=>(qK c b).bind fun d=>bif d then some false else a ()) (fun _=>some true) 0 a0.ff ()
def qmJ:Tb:={ls:=[(0,⟨Nat×Unit,[1,26,27],[],fun s e w=>([(28,.int .i64 (s.1:Int))],[]),[16]⟩)]}
theorem qja(a0:qu)(res:Bool)(hr:qc1 a0=some res):zf prog 166 [qp a0] (.bool res):=by
 unfold qc1 at hr;refine qdg qmJ func166 rfl fun K hK hF=>?_;exact wk
instance(a0:qu):Cb prog 166 (qc1 a0) [qp a0] (fun res=>.bool res):=⟨qja a0⟩
def qeC(a0:Int):Option Bool:=some ((a0 !=a0))
instance(a0:Int):Cb prog 277 (qeC a0) [.int .i64 a0] (fun res=>.bool res):=kC {} func277 rfl (by unfold qeC;exact wS)
def qby(a0:Int)(a:Int):Option Int:=(qeC a0).bind fun c=>(qeC a).bind fun b=>bif c then bif b then some (0)else some ((-1)) else bif b then some (1)else bif(decide (a0<a))then some ((-1))else bif(decide (a0>a))then some (1)else some (0)
instance(a0:Int)(a:Int):Cb prog 235 (qby a0 a) [.int .i64 a0,.int .i64 a] (fun res=>.int .i64 res):=kC {} func235 rfl (by unfold qby;exact wS)
def qgt(a0:List Int):Option Int:=forL (β:=Unit) (fun _ b _ a=>bif(b !=(0:Int))then some b else a ()) (fun _=>some (0)) 0 a0 ()
def qqh:Tb:={ls:=[(0,⟨Nat×Unit,[3,6,7],[],fun s e w=>([(8,.int .i64 (s.1:Int))],[]),[7]⟩)]}
instance(a0:List Int):Cb prog 234 (qgt a0) [.lst (a0.map (D.int .i64))] (fun res=>.int .i64 res):=kC qqh func234 rfl (by unfold qgt;exact wS)
def qbF(b:List Int)(a:List Int):Option Int:=forL (β:=Unit) (fun i1 e _ c=>bif(decide ((i1:Int)≥(a.length:Int)))then some (1)else (getI a (i1:Int)).bind fun f=>(qby e f).bind fun d=>bif(d !=(0:Int))then some d else c ()) (fun _=>bif(decide ((b.length:Int)<(a.length:Int)))then some ((-1))else some (0)) 0 b ()
def qhr:Tb:={ls:=[(0,⟨Nat×Unit,[0,1,9,10],[],fun s e w=>([(11,.int .i64 (s.1:Int))],[]),[10]⟩)]}
instance(a:List Int)(b:List Int):Cb prog 236 (qbF a b) [.lst (a.map (D.int .i64)),.lst (b.map (D.int .i64))] (fun res=>.int .i64 res):=kC qhr func236 rfl (by unfold qbF;exact wS)
def qcf(a0:qu)(a:qu):Option Int:=(qby a0.fp a.fp).bind fun c=>(qby (a0.ff.length:Int) (a.ff.length:Int)).bind fun d=>(qgt [c,d]).bind fun b=>bif(b !=(0:Int))then some b else (qbF a0.ff a.ff).bind fun e=>some e
theorem qfF(a0:qu)(a:qu)(res:Int)(hr:qcf a0 a=some res):zf prog 167 [qp a0,qp a] (.int .i64 res):=by
 unfold qcf at hr;refine qdg {} func167 rfl fun K hK hF=>?_;exact wk
instance(a0:qu)(a:qu):Cb prog 167 (qcf a0 a) [qp a0,qp a] (fun res=>.int .i64 res):=⟨qfF a0 a⟩
def qcZ(a0:List qu):Option Bool:=bif(decide ((a0.length:Int)>(5000:Int)))then some false else forL (β:=Unit) (fun i2 b _ a=>(qc1 b).bind fun c=>bif(!c)then some false else bif(decide ((i2:Int)>(0:Int)))then (getI a0 (wr ((i2:Int)-(1:Int)))).bind fun d=>(qcf d b).bind fun e=>bif(decide (e≥(0:Int)))then some false else a ()    else a ()) (fun _=>some true) 0 a0 ()
def qmx:Tb:={ls:=[(0,⟨Nat×Unit,[0,8],[],fun s e w=>([(9,.int .i64 (s.1:Int))],[]),[5]⟩)]}
theorem qjb(a0:List qu)(res:Bool)(hr:qcZ a0=some res):zf prog 96 [.lst (a0.map qp)] (.bool res):=by
 unfold qcZ at hr;refine qdg qmx func96 rfl fun K hK hF=>?_;exact wk
instance(a0:List qu):Cb prog 96 (qcZ a0) [.lst (a0.map qp)] (fun res=>.bool res):=⟨qjb a0⟩
def qed(a0:Gl):Option Bool:=bif(a0.op==(0:Int))then bif(a0.n.toList==(⟨#[]⟩:ByteArray).toList)then some (((a0.ts.length:Int)==(0:Int)))else some false else some false
instance(a0:Gl):Cb prog 171 (qed a0) [zG a0] (fun res=>.bool res):=kC {} func171 rfl (by unfold qed;exact wS)
def qbk(a0:Int)(a:qe)(b:qf)(c:Int)(d:List (Int×Unit)):Option Bool:=bif(!((zk d a0).isSome))then some ((decide (a0<a.fg)))else some false
def qgZ(a:Nat):Tb:={fz:=[(1,[4])]}
instance(a0:Int)(a:qe)(b:qf)(c:Int)(e:List (Int×Unit)):Co prog 239 (qbk a0 a b c e) (fun(nm:Nat)=>⟨[.int .i64 a0,.ptr (.ptr (.agg [qh a,qj b,.map nm,.int .i64 c]))],[.map nm (zb (D.int .i64) zM e)],fun res d σ=>d= .bool res∧σ=[.map nm (zb (D.int .i64) zM e)]⟩):=kO qgZ func239 rfl (by unfold qbk;exact wO)
def qcQ(a0:Int)(a:qe)(b:qf)(c:Int)(d:List (Int×Unit)):Option Bool:=(qbk a0 a b c d).bind fun e=>some ((!e))
instance(a0:Int)(a:qe)(b:qf)(c:Int)(e:List (Int×Unit)):Co prog 243 (qcQ a0 a b c e) (fun(nm:Nat)=>⟨[.int .i64 a0,.ptr (.clo (.func 239) [] [.ptr (.ptr (.agg [qh a,qj b,.map nm,.int .i64 c]))])],[.map nm (zb (D.int .i64) zM e)],fun res d σ=>d= .bool res∧σ=[.map nm (zb (D.int .i64) zM e)]⟩):=kO (fun _=>{}) func243 rfl (by unfold qcQ;exact wO)
def qda(a0:List Int)(a:qe)(b:qf)(c:Int)(d:List (Int×Unit)):Option (Int×(List (Int×Unit))):=forL (β:=Unit) (fun i1 f _ e=>(qcQ f a b c d).bind fun g=>bif g then some ((i1:Int),d)else e ()) (fun _=>some ((-1),d)) 0 a0 ()
def qi3(a:Nat):Tb:={ls:=[(0,⟨Nat×Unit,[0,1,7],[],fun s e w=>([(8,.int .i64 (s.1:Int))],[]),[7]⟩)]}
instance(a0:List Int)(a:qe)(b:qf)(c:Int)(e:List (Int×Unit)):Co prog 279 (qda a0 a b c e) (fun(nm:Nat)=>⟨[.lst (a0.map (D.int .i64)),.clo (.func 243) [] [.ptr (.clo (.func 239) [] [.ptr (.ptr (.agg [qh a,qj b,.map nm,.int .i64 c]))])]],[.map nm (zb (D.int .i64) zM e)],fun res d σ=>d= .int .i64 res.1∧σ=[.map nm (zb (D.int .i64) zM res.2)]⟩):=kO qi3 func279 rfl (by unfold qda;exact wO)
def qcz(a0:List Int)(a:qe)(b:qf)(c:Int)(e:List (Int×Unit)):Option (Bool×(List (Int×Unit))):=(qda a0 a b c e).bind fun d=>some ((decide (d.1≥(0:Int))),d.2)
instance(a0:List Int)(a:qe)(b:qf)(c:Int)(e:List (Int×Unit)):Co prog 242 (qcz a0 a b c e) (fun(nm:Nat)=>⟨[.lst (a0.map (D.int .i64)),.clo (.func 243) [] [.ptr (.clo (.func 239) [] [.ptr (.ptr (.agg [qh a,qj b,.map nm,.int .i64 c]))])]],[.map nm (zb (D.int .i64) zM e)],fun res d σ=>d= .bool res.1∧σ=[.map nm (zb (D.int .i64) zM res.2)]⟩):=kO (fun _=>{}) func242 rfl (by unfold qcz;exact wO)
def qei(a0:List Int)(a:qe)(b:qf)(c:Int)(e:List (Int×Unit)):Option (Bool×(List (Int×Unit))):=(qcz a0 a b c e).bind fun d=>some ((!d.1),d.2)
instance(a0:List Int)(a:qe)(b:qf)(c:Int)(e:List (Int×Unit)):Co prog 181 (qei a0 a b c e) (fun(nm:Nat)=>⟨[.lst (a0.map (D.int .i64)),.clo (.func 239) [] [.ptr (.ptr (.agg [qh a,qj b,.map nm,.int .i64 c]))]],[.map nm (zb (D.int .i64) zM e)],fun res d σ=>d= .bool res.1∧σ=[.map nm (zb (D.int .i64) zM res.2)]⟩):=kO (fun _=>{}) func181 rfl (by unfold qei;exact wO)
def qaR(a:qe)(b:qf)(c:Int)(e:List Int)(f:List (Int×Unit)):Option (Bool×(List (Int×Unit))):=(qei e a b c f).bind fun d=>some (d.1,d.2)
instance(a:qe)(b:qf)(c:Int)(e:List Int)(f:List (Int×Unit)):Co prog 173 (qaR a b c e f) (fun(nm:Nat)=>⟨[.ptr (.agg [qh a,qj b,.map nm,.int .i64 c]),.lst (e.map (D.int .i64))],[.map nm (zb (D.int .i64) zM f)],fun res d σ=>d= .bool res.1∧σ=[.map nm (zb (D.int .i64) zM res.2)]⟩):=kO (fun _=>{}) func173 rfl (by unfold qaR;exact wO)
def qbv(a0:Gl):Option Bool:=bif(decide (a0.op≥(1:Int)))then some ((decide (a0.op≤(4:Int))))else some false
instance(a0:Gl):Cb prog 107 (qbv a0) [zG a0] (fun res=>.bool res):=kC {} func107 rfl (by unfold qbv;exact wS)
def qbr(a:qe)(b:qf)(c:Int)(d:qB)(f:List (Int×Unit)):Option (Bool×(List (Int×Unit))):=bif(d.fj !=(0:Int))then bif(decide (d.fj>(0:Int)))then bif(decide (d.fj<a.fl))then (qed d.fi).bind fun l=>bif l then bif(decide (d.fA≥((-1):Int)))then some ((decide (d.fA≤c)),f)else some (false,f) else some (false,f)  else some (false,f) else some (false,f) else bif(d.fA !=(0:Int))then some (false,f)else (qef d.fi).bind fun m=>bif(!m)then some (false,f)else (qpy d.fi).bind fun g=>(qaR a b c g f).bind fun e=>bif(!e.1)then some (false,e.2)else (qbv d.fi).bind fun h=>bif h then some (true,e.2)else bif(d.fi.op==(0:Int))then (qcx b.fD d.fi.n (d.fi.ts.length:Int)).bind fun j=>some (j,e.2) else some (false,e.2)
def qhf(a:Nat):Tb:={fz:=[(3,[5])]}
instance(a:qe)(b:qf)(c:Int)(e:qB)(f:List (Int×Unit)):Co prog 99 (qbr a b c e f) (fun(nm:Nat)=>⟨[.ptr (.agg [qh a,qj b,.map nm,.int .i64 c]),qG e],[.map nm (zb (D.int .i64) zM f)],fun res d σ=>d= .bool res.1∧σ=[.map nm (zb (D.int .i64) zM res.2)]⟩):=kO qhf func99 rfl (by unfold qbr;exact wO)
def qcH(a0:qB)(a:qe)(b:qf)(c:Int)(e:List (Int×Unit)):Option (Bool×(List (Int×Unit))):=(qbr a b c a0 e).bind fun d=>some ((!d.1),d.2)
instance(a0:qB)(a:qe)(b:qf)(c:Int)(e:List (Int×Unit)):Co prog 170 (qcH a0 a b c e) (fun(nm:Nat)=>⟨[qG a0,.ptr (.clo (.func 99) [.ptr (.agg [qh a,qj b,.map nm,.int .i64 c])] [])],[.map nm (zb (D.int .i64) zM e)],fun res d σ=>d= .bool res.1∧σ=[.map nm (zb (D.int .i64) zM res.2)]⟩):=kO (fun _=>{}) func170 rfl (by unfold qcH;exact wO)
def qdk(a0:List qB)(a:qe)(b:qf)(c:Int)(g:List (Int×Unit)):Option (Int×(List (Int×Unit))):=forL (β:=(List (Int×Unit))) (fun i1 h d e=>(qcH h a b c d).bind fun f=>bif f.1 then some ((i1:Int),f.2)else e f.2) (fun d=>some ((-1),d)) 0 a0 g
def qim(a:Nat):Tb:={ls:=[(0,⟨Nat×(List (Int×Unit)),[0,1,7],[],fun s e w=>([(8,.int .i64 (s.1:Int))],[.map a (zb (D.int .i64) zM s.2)]),[7]⟩)]}
instance(a0:List qB)(a:qe)(b:qf)(c:Int)(e:List (Int×Unit)):Co prog 238 (qdk a0 a b c e) (fun(nm:Nat)=>⟨[.lst (a0.map qG),.clo (.func 170) [] [.ptr (.clo (.func 99) [.ptr (.agg [qh a,qj b,.map nm,.int .i64 c])] [])]],[.map nm (zb (D.int .i64) zM e)],fun res d σ=>d= .int .i64 res.1∧σ=[.map nm (zb (D.int .i64) zM res.2)]⟩):=kO qim func238 rfl (by unfold qdk;exact wO)
def qcD(a0:List qB)(a:qe)(b:qf)(c:Int)(e:List (Int×Unit)):Option (Bool×(List (Int×Unit))):=(qdk a0 a b c e).bind fun d=>some ((decide (d.1≥(0:Int))),d.2)
instance(a0:List qB)(a:qe)(b:qf)(c:Int)(e:List (Int×Unit)):Co prog 169 (qcD a0 a b c e) (fun(nm:Nat)=>⟨[.lst (a0.map qG),.clo (.func 170) [] [.ptr (.clo (.func 99) [.ptr (.agg [qh a,qj b,.map nm,.int .i64 c])] [])]],[.map nm (zb (D.int .i64) zM e)],fun res d σ=>d= .bool res.1∧σ=[.map nm (zb (D.int .i64) zM res.2)]⟩):=kO (fun _=>{}) func169 rfl (by unfold qcD;exact wO)
def qds(a0:List qB)(a:qe)(b:qf)(c:Int)(e:List (Int×Unit)):Option (Bool×(List (Int×Unit))):=(qcD a0 a b c e).bind fun d=>some ((!d.1),d.2)
instance(a0:List qB)(a:qe)(b:qf)(c:Int)(e:List (Int×Unit)):Co prog 98 (qds a0 a b c e) (fun(nm:Nat)=>⟨[.lst (a0.map qG),.clo (.func 99) [.ptr (.agg [qh a,qj b,.map nm,.int .i64 c])] []],[.map nm (zb (D.int .i64) zM e)],fun res d σ=>d= .bool res.1∧σ=[.map nm (zb (D.int .i64) zM res.2)]⟩):=kO (fun _=>{}) func98 rfl (by unfold qds;exact wO)
def qbE(a:qe)(b:qf)(c:Int)(d:(Int×At))(f:List (Int×Unit)):Option (Bool×(List (Int×Unit))):=bif(decide (d.1<a.fl))then (qjG d.2).bind fun g=>(qaR a b c g f).bind fun e=>bif e.1 then (qcx b.fD d.2.n (d.2.ts.length:Int)).bind fun h=>some (h,e.2) else some (false,e.2)   else some (false,f)
def qht(a:Nat):Tb:={rg:=[(1,[(0,0),(1,0),(2,0),(3,0),(4,0),(5,0),(6,0),(7,0),(8,0),(9,0),(10,0),(11,0),(12,0),(13,1),(14,0),(15,0),(16,0),(17,0),(18,0),(19,0),(20,0),(21,0),(22,0),(23,0),(24,0),(25,0),(26,0),(27,0),(28,0),(29,0),(30,0)])]}
instance(a:qe)(b:qf)(c:Int)(e:(Int×At))(f:List (Int×Unit)):Co prog 101 (qbE a b c e f) (fun(nm:Nat)=>⟨[.ptr (.agg [qh a,qj b,.map nm,.int .i64 c]),zt e],[.map nm (zb (D.int .i64) zM f)],fun res d σ=>d= .bool res.1∧σ=[.map nm (zb (D.int .i64) zM res.2)]⟩):=kO qht func101 rfl (by unfold qbE;exact wO)
def qcO(a0:(Int×At))(a:qe)(b:qf)(c:Int)(e:List (Int×Unit)):Option (Bool×(List (Int×Unit))):=(qbE a b c a0 e).bind fun d=>some ((!d.1),d.2)
instance(a0:(Int×At))(a:qe)(b:qf)(c:Int)(e:List (Int×Unit)):Co prog 177 (qcO a0 a b c e) (fun(nm:Nat)=>⟨[zt a0,.ptr (.clo (.func 101) [.ptr (.agg [qh a,qj b,.map nm,.int .i64 c])] [])],[.map nm (zb (D.int .i64) zM e)],fun res d σ=>d= .bool res.1∧σ=[.map nm (zb (D.int .i64) zM res.2)]⟩):=kO (fun _=>{}) func177 rfl (by unfold qcO;exact wO)
def qdh(a0:List (Int×At))(a:qe)(b:qf)(c:Int)(g:List (Int×Unit)):Option (Int×(List (Int×Unit))):=forL (β:=(List (Int×Unit))) (fun i1 h d e=>(qcO h a b c d).bind fun f=>bif f.1 then some ((i1:Int),f.2)else e f.2) (fun d=>some ((-1),d)) 0 a0 g
def qiI(a:Nat):Tb:={ls:=[(0,⟨Nat×(List (Int×Unit)),[0,1,7],[],fun s e w=>([(8,.int .i64 (s.1:Int))],[.map a (zb (D.int .i64) zM s.2)]),[7]⟩)]}
instance(a0:List (Int×At))(a:qe)(b:qf)(c:Int)(e:List (Int×Unit)):Co prog 187 (qdh a0 a b c e) (fun(nm:Nat)=>⟨[.lst (a0.map zt),.clo (.func 177) [] [.ptr (.clo (.func 101) [.ptr (.agg [qh a,qj b,.map nm,.int .i64 c])] [])]],[.map nm (zb (D.int .i64) zM e)],fun res d σ=>d= .int .i64 res.1∧σ=[.map nm (zb (D.int .i64) zM res.2)]⟩):=kO qiI func187 rfl (by unfold qdh;exact wO)
def qcr(a0:List (Int×At))(a:qe)(b:qf)(c:Int)(e:List (Int×Unit)):Option (Bool×(List (Int×Unit))):=(qdh a0 a b c e).bind fun d=>some ((decide (d.1≥(0:Int))),d.2)
instance(a0:List (Int×At))(a:qe)(b:qf)(c:Int)(e:List (Int×Unit)):Co prog 176 (qcr a0 a b c e) (fun(nm:Nat)=>⟨[.lst (a0.map zt),.clo (.func 177) [] [.ptr (.clo (.func 101) [.ptr (.agg [qh a,qj b,.map nm,.int .i64 c])] [])]],[.map nm (zb (D.int .i64) zM e)],fun res d σ=>d= .bool res.1∧σ=[.map nm (zb (D.int .i64) zM res.2)]⟩):=kO (fun _=>{}) func176 rfl (by unfold qcr;exact wO)
end
noncomputable section
def cpI(a b:Int):Int:=if a<b then-1 else if a>b then 1 else 0
def zaH:List Int→List Int→Int |[],[]=>0 |[],_::_=> -1 |_::_,[]=>1 |a::l,b::m=>if cpI a b≠0 then cpI a b else zaH l m
def cpF(a b:qu):Int:=if cpI a.fp b.fp≠0 then cpI a.fp b.fp else if cpI (a.ff.length:Int) (b.ff.length:Int)≠0 then cpI (a.ff.length:Int) (b.ff.length:Int)else zaH a.ff b.ff
def zar(l:List qu)(f:qu):Nat:=(l.takeWhile fun g=>decide (cpF g f<0)).length
def zax(l:List qu)(f:qu):Bool:=match l[zar l f]? with
 |some g=>cpF g f==0
 |none=>false
def qh6(l:List qu)(f:qu):Option (List qu×Int):=(qcZ l).bind fun a=>bif !a then some ([],2)else(qc1 f).bind fun b=>bif !b then some ([],2)else bif zax l f then some ([],8)else bif decide ((l.length:Int)≥5000)then some ([],6)else some (l.take (zar l f)++f::l.drop (zar l f),0)
end
noncomputable section
def qdK(a0:List (Int×At))(a:qe)(b:qf)(c:Int)(e:List (Int×Unit)):Option (Bool×(List (Int×Unit))):=(qcr a0 a b c e).bind fun d=>some ((!d.1),d.2)
instance(a0:List (Int×At))(a:qe)(b:qf)(c:Int)(e:List (Int×Unit)):Co prog 100 (qdK a0 a b c e) (fun(nm:Nat)=>⟨[.lst (a0.map zt),.clo (.func 101) [.ptr (.agg [qh a,qj b,.map nm,.int .i64 c])] []],[.map nm (zb (D.int .i64) zM e)],fun res d σ=>d= .bool res.1∧σ=[.map nm (zb (D.int .i64) zM res.2)]⟩):=kO (fun _=>{}) func100 rfl (by unfold qdK;exact wO)
def qcM(a0:Int)(a:qe)(b:qf)(c:Int)(d:List (Int×Unit)):Option Bool:=some ((decide (a0<a.fg)))
instance(a0:Int)(a:qe)(b:qf)(c:Int)(e:List (Int×Unit)):Co prog 182 (qcM a0 a b c e) (fun(nm:Nat)=>⟨[.int .i64 a0,.ptr (.ptr (.agg [qh a,qj b,.map nm,.int .i64 c]))],[.map nm (zb (D.int .i64) zM e)],fun res d σ=>d= .bool res∧σ=[.map nm (zb (D.int .i64) zM e)]⟩):=kO (fun _=>{}) func182 rfl (by unfold qcM;exact wO)
def qdX(a0:Int)(a:qe)(b:qf)(c:Int)(d:List (Int×Unit)):Option Bool:=(qcM a0 a b c d).bind fun e=>some ((!e))
instance(a0:Int)(a:qe)(b:qf)(c:Int)(e:List (Int×Unit)):Co prog 243 (qdX a0 a b c e) (fun(nm:Nat)=>⟨[.int .i64 a0,.ptr (.clo (.func 182) [] [.ptr (.ptr (.agg [qh a,qj b,.map nm,.int .i64 c]))])],[.map nm (zb (D.int .i64) zM e)],fun res d σ=>d= .bool res∧σ=[.map nm (zb (D.int .i64) zM e)]⟩):=kO (fun _=>{}) func243 rfl (by unfold qdX;exact wO)
def qdb(a0:List Int)(a:qe)(b:qf)(c:Int)(d:List (Int×Unit)):Option (Int×(List (Int×Unit))):=forL (β:=Unit) (fun i1 f _ e=>(qdX f a b c d).bind fun g=>bif g then some ((i1:Int),d)else e ()) (fun _=>some ((-1),d)) 0 a0 ()
def qiW(a:Nat):Tb:={ls:=[(0,⟨Nat×Unit,[0,1,7],[],fun s e w=>([(8,.int .i64 (s.1:Int))],[]),[7]⟩)]}
instance(a0:List Int)(a:qe)(b:qf)(c:Int)(e:List (Int×Unit)):Co prog 279 (qdb a0 a b c e) (fun(nm:Nat)=>⟨[.lst (a0.map (D.int .i64)),.clo (.func 243) [] [.ptr (.clo (.func 182) [] [.ptr (.ptr (.agg [qh a,qj b,.map nm,.int .i64 c]))])]],[.map nm (zb (D.int .i64) zM e)],fun res d σ=>d= .int .i64 res.1∧σ=[.map nm (zb (D.int .i64) zM res.2)]⟩):=kO qiW func279 rfl (by unfold qdb;exact wO)
def qcm(a0:List Int)(a:qe)(b:qf)(c:Int)(e:List (Int×Unit)):Option (Bool×(List (Int×Unit))):=(qdb a0 a b c e).bind fun d=>some ((decide (d.1≥(0:Int))),d.2)
instance(a0:List Int)(a:qe)(b:qf)(c:Int)(e:List (Int×Unit)):Co prog 242 (qcm a0 a b c e) (fun(nm:Nat)=>⟨[.lst (a0.map (D.int .i64)),.clo (.func 243) [] [.ptr (.clo (.func 182) [] [.ptr (.ptr (.agg [qh a,qj b,.map nm,.int .i64 c]))])]],[.map nm (zb (D.int .i64) zM e)],fun res d σ=>d= .bool res.1∧σ=[.map nm (zb (D.int .i64) zM res.2)]⟩):=kO (fun _=>{}) func242 rfl (by unfold qcm;exact wO)
def qel(a0:List Int)(a:qe)(b:qf)(c:Int)(e:List (Int×Unit)):Option (Bool×(List (Int×Unit))):=(qcm a0 a b c e).bind fun d=>some ((!d.1),d.2)
instance(a0:List Int)(a:qe)(b:qf)(c:Int)(e:List (Int×Unit)):Co prog 181 (qel a0 a b c e) (fun(nm:Nat)=>⟨[.lst (a0.map (D.int .i64)),.clo (.func 182) [] [.ptr (.ptr (.agg [qh a,qj b,.map nm,.int .i64 c]))]],[.map nm (zb (D.int .i64) zM e)],fun res d σ=>d= .bool res.1∧σ=[.map nm (zb (D.int .i64) zM res.2)]⟩):=kO (fun _=>{}) func181 rfl (by unfold qel;exact wO)
def qa0(a:qe)(b:qf)(c:Int)(d:(Int×T))(e:List (Int×Unit)):Option (Bool×(List (Int×Unit))):=bif(decide (d.1<a.fg))then (qqe d.2).bind fun g=>(qel g a b c e).bind fun f=>some (f.1,f.2)  else some (false,e)
def qgy(a:Nat):Tb:={rg:=[(1,[(0,0),(1,0),(2,0),(3,0),(4,0),(5,0),(6,0),(7,0),(8,0),(9,0),(10,0),(11,0),(12,0),(13,1),(14,0),(15,0)])]}
instance(a:qe)(b:qf)(c:Int)(e:(Int×T))(f:List (Int×Unit)):Co prog 103 (qa0 a b c e f) (fun(nm:Nat)=>⟨[.ptr (.agg [qh a,qj b,.map nm,.int .i64 c]),zw e],[.map nm (zb (D.int .i64) zM f)],fun res d σ=>d= .bool res.1∧σ=[.map nm (zb (D.int .i64) zM res.2)]⟩):=kO qgy func103 rfl (by unfold qa0;exact wO)
def qcP(a0:(Int×T))(a:qe)(b:qf)(c:Int)(e:List (Int×Unit)):Option (Bool×(List (Int×Unit))):=(qa0 a b c a0 e).bind fun d=>some ((!d.1),d.2)
instance(a0:(Int×T))(a:qe)(b:qf)(c:Int)(e:List (Int×Unit)):Co prog 180 (qcP a0 a b c e) (fun(nm:Nat)=>⟨[zw a0,.ptr (.clo (.func 103) [.ptr (.agg [qh a,qj b,.map nm,.int .i64 c])] [])],[.map nm (zb (D.int .i64) zM e)],fun res d σ=>d= .bool res.1∧σ=[.map nm (zb (D.int .i64) zM res.2)]⟩):=kO (fun _=>{}) func180 rfl (by unfold qcP;exact wO)
def qdd(a0:List (Int×T))(a:qe)(b:qf)(c:Int)(g:List (Int×Unit)):Option (Int×(List (Int×Unit))):=forL (β:=(List (Int×Unit))) (fun i1 h d e=>(qcP h a b c d).bind fun f=>bif f.1 then some ((i1:Int),f.2)else e f.2) (fun d=>some ((-1),d)) 0 a0 g
def qiy(a:Nat):Tb:={ls:=[(0,⟨Nat×(List (Int×Unit)),[0,1,7],[],fun s e w=>([(8,.int .i64 (s.1:Int))],[.map a (zb (D.int .i64) zM s.2)]),[7]⟩)]}
instance(a0:List (Int×T))(a:qe)(b:qf)(c:Int)(e:List (Int×Unit)):Co prog 241 (qdd a0 a b c e) (fun(nm:Nat)=>⟨[.lst (a0.map zw),.clo (.func 180) [] [.ptr (.clo (.func 103) [.ptr (.agg [qh a,qj b,.map nm,.int .i64 c])] [])]],[.map nm (zb (D.int .i64) zM e)],fun res d σ=>d= .int .i64 res.1∧σ=[.map nm (zb (D.int .i64) zM res.2)]⟩):=kO qiy func241 rfl (by unfold qdd;exact wO)
def qcl(a0:List (Int×T))(a:qe)(b:qf)(c:Int)(e:List (Int×Unit)):Option (Bool×(List (Int×Unit))):=(qdd a0 a b c e).bind fun d=>some ((decide (d.1≥(0:Int))),d.2)
instance(a0:List (Int×T))(a:qe)(b:qf)(c:Int)(e:List (Int×Unit)):Co prog 179 (qcl a0 a b c e) (fun(nm:Nat)=>⟨[.lst (a0.map zw),.clo (.func 180) [] [.ptr (.clo (.func 103) [.ptr (.agg [qh a,qj b,.map nm,.int .i64 c])] [])]],[.map nm (zb (D.int .i64) zM e)],fun res d σ=>d= .bool res.1∧σ=[.map nm (zb (D.int .i64) zM res.2)]⟩):=kO (fun _=>{}) func179 rfl (by unfold qcl;exact wO)
def qdt(a0:List (Int×T))(a:qe)(b:qf)(c:Int)(e:List (Int×Unit)):Option (Bool×(List (Int×Unit))):=(qcl a0 a b c e).bind fun d=>some ((!d.1),d.2)
instance(a0:List (Int×T))(a:qe)(b:qf)(c:Int)(e:List (Int×Unit)):Co prog 102 (qdt a0 a b c e) (fun(nm:Nat)=>⟨[.lst (a0.map zw),.clo (.func 103) [.ptr (.agg [qh a,qj b,.map nm,.int .i64 c])] []],[.map nm (zb (D.int .i64) zM e)],fun res d σ=>d= .bool res.1∧σ=[.map nm (zb (D.int .i64) zM res.2)]⟩):=kO (fun _=>{}) func102 rfl (by unfold qdt;exact wO)
def qaU(a0:qs):Option Bool:=some (((a0.ft.length:Int)==(0:Int)))
instance(a0:qs):Cb prog 185 (qaU a0) [qo a0] (fun res=>.bool res):=kC {} func185 rfl (by unfold qaU;exact wS)
def qe2(a0:Int):Option Int:=some a0
theorem qk7(a0:Int)(res:Int)(hr:qe2 a0=some res):zf prog 188 [.int .i64 a0] (.clo (.func 245) [] [.ptr (.int .i64 res)]):=by
 unfold qe2 at hr;refine qdg {} func188 rfl fun K hK hF=>?_;exact wk
instance(a0:Int):Cb prog 188 (qe2 a0) [.int .i64 a0] (fun res=>.clo (.func 245) [] [.ptr (.int .i64 res)]):=⟨qk7 a0⟩
def qdE(a0:(Int×At))(a:Int):Option Bool:=some ((a0.1==a))
instance(a0:(Int×At))(a:Int):Cb prog 245 (qdE a0 a) [zt a0,.ptr (.int .i64 a)] (fun res=>.bool res):=kC {} func245 rfl (by unfold qdE;exact wS)
def qae(a0:List (Int×At))(a:Int):Option Int:=forL (β:=Unit) (fun i1 c _ b=>(qdE c a).bind fun d=>bif d then some ((i1:Int))else b ()) (fun _=>some ((-1))) 0 a0 ()
def qjj:Tb:={ls:=[(0,⟨Nat×Unit,[0,1,7],[],fun s e w=>([(8,.int .i64 (s.1:Int))],[]),[7]⟩)]}
theorem qfP(a0:List (Int×At))(a:Int)(res:Int)(hr:qae a0 a=some res):zf prog 187 [.lst (a0.map zt),.clo (.func 245) [] [.ptr (.int .i64 a)]] (.int .i64 res):=by
 unfold qae at hr;refine qdg qjj func187 rfl fun K hK hF=>?_;exact wk
instance(a0:List (Int×At))(a:Int):Cb prog 187 (qae a0 a) [.lst (a0.map zt),.clo (.func 245) [] [.ptr (.int .i64 a)]] (fun res=>.int .i64 res):=⟨qfP a0 a⟩
def qe7(a0:List (Int×At))(b:Int):Option (At×Bool):=(qe2 b).bind fun c=>(qae a0 c).bind fun a=>bif(decide (a≥(0:Int)))then (getI a0 a).bind fun d=>some (d.2,true) else some ((⟨⟨#[]⟩,[]⟩:At),false)
instance(a0:List (Int×At))(a:Int):Cb prog 108 (qe7 a0 a) [.lst (a0.map zt),.int .i64 a] (fun res=>.tup [zK res.1,.bool res.2]):=kC {} func108 rfl (by unfold qe7;exact wS)
def qce(a0:Int)(a:qe)(b:qf)(c:Int)(e:List (Int×Unit)):Option Bool:=(qe7 a.fh a0).bind fun d=>some d.2
def qgN(a:Nat):Tb:={fz:=[(1,[4])]}
instance(a0:Int)(a:qe)(b:qf)(c:Int)(e:List (Int×Unit)):Co prog 186 (qce a0 a b c e) (fun(nm:Nat)=>⟨[.int .i64 a0,.ptr (.ptr (.agg [qh a,qj b,.map nm,.int .i64 c]))],[.map nm (zb (D.int .i64) zM e)],fun res d σ=>d= .bool res∧σ=[.map nm (zb (D.int .i64) zM e)]⟩):=kO qgN func186 rfl (by unfold qce;exact wO)
def qcG(a0:Int)(a:qe)(b:qf)(c:Int)(d:List (Int×Unit)):Option Bool:=(qce a0 a b c d).bind fun e=>some ((!e))
instance(a0:Int)(a:qe)(b:qf)(c:Int)(e:List (Int×Unit)):Co prog 243 (qcG a0 a b c e) (fun(nm:Nat)=>⟨[.int .i64 a0,.ptr (.clo (.func 186) [] [.ptr (.ptr (.agg [qh a,qj b,.map nm,.int .i64 c]))])],[.map nm (zb (D.int .i64) zM e)],fun res d σ=>d= .bool res∧σ=[.map nm (zb (D.int .i64) zM e)]⟩):=kO (fun _=>{}) func243 rfl (by unfold qcG;exact wO)
def qde(a0:List Int)(a:qe)(b:qf)(c:Int)(d:List (Int×Unit)):Option (Int×(List (Int×Unit))):=forL (β:=Unit) (fun i1 f _ e=>(qcG f a b c d).bind fun g=>bif g then some ((i1:Int),d)else e ()) (fun _=>some ((-1),d)) 0 a0 ()
def qiM(a:Nat):Tb:={ls:=[(0,⟨Nat×Unit,[0,1,7],[],fun s e w=>([(8,.int .i64 (s.1:Int))],[]),[7]⟩)]}
instance(a0:List Int)(a:qe)(b:qf)(c:Int)(e:List (Int×Unit)):Co prog 279 (qde a0 a b c e) (fun(nm:Nat)=>⟨[.lst (a0.map (D.int .i64)),.clo (.func 243) [] [.ptr (.clo (.func 186) [] [.ptr (.ptr (.agg [qh a,qj b,.map nm,.int .i64 c]))])]],[.map nm (zb (D.int .i64) zM e)],fun res d σ=>d= .int .i64 res.1∧σ=[.map nm (zb (D.int .i64) zM res.2)]⟩):=kO qiM func279 rfl (by unfold qde;exact wO)
def qcn(a0:List Int)(a:qe)(b:qf)(c:Int)(e:List (Int×Unit)):Option (Bool×(List (Int×Unit))):=(qde a0 a b c e).bind fun d=>some ((decide (d.1≥(0:Int))),d.2)
instance(a0:List Int)(a:qe)(b:qf)(c:Int)(e:List (Int×Unit)):Co prog 242 (qcn a0 a b c e) (fun(nm:Nat)=>⟨[.lst (a0.map (D.int .i64)),.clo (.func 243) [] [.ptr (.clo (.func 186) [] [.ptr (.ptr (.agg [qh a,qj b,.map nm,.int .i64 c]))])]],[.map nm (zb (D.int .i64) zM e)],fun res d σ=>d= .bool res.1∧σ=[.map nm (zb (D.int .i64) zM res.2)]⟩):=kO (fun _=>{}) func242 rfl (by unfold qcn;exact wO)
def qek(a0:List Int)(a:qe)(b:qf)(c:Int)(e:List (Int×Unit)):Option (Bool×(List (Int×Unit))):=(qcn a0 a b c e).bind fun d=>some ((!d.1),d.2)
instance(a0:List Int)(a:qe)(b:qf)(c:Int)(e:List (Int×Unit)):Co prog 181 (qek a0 a b c e) (fun(nm:Nat)=>⟨[.lst (a0.map (D.int .i64)),.clo (.func 186) [] [.ptr (.ptr (.agg [qh a,qj b,.map nm,.int .i64 c]))]],[.map nm (zb (D.int .i64) zM e)],fun res d σ=>d= .bool res.1∧σ=[.map nm (zb (D.int .i64) zM res.2)]⟩):=kO (fun _=>{}) func181 rfl (by unfold qek;exact wO)
def qbI(b:qe)(a:qf)(c:Int)(d:qu)(e:List (Int×Unit)):Option (Bool×(List (Int×Unit))):=bif(decide (d.fp≥(a.fe.length:Int)))then some (false,e)else (getI a.fe d.fp).bind fun f=>(qaU f).bind fun h=>bif h then bif((d.ff.length:Int)==(f.fm.length:Int))then (qek d.ff b a c e).bind fun g=>some (g.1,g.2) else some (false,e) else some (false,e)
def qhy(a:Nat):Tb:={fz:=[(3,[5])],rg:=[(3,[(0,0),(1,0),(2,0),(3,0),(4,0),(5,0),(6,0),(7,0),(8,0),(9,1),(10,1)])]}
instance(a:qe)(b:qf)(c:Int)(e:qu)(f:List (Int×Unit)):Co prog 105 (qbI a b c e f) (fun(nm:Nat)=>⟨[.ptr (.agg [qh a,qj b,.map nm,.int .i64 c]),qp e],[.map nm (zb (D.int .i64) zM f)],fun res d σ=>d= .bool res.1∧σ=[.map nm (zb (D.int .i64) zM res.2)]⟩):=kO qhy func105 rfl (by unfold qbI;exact wO)
def qcK(a0:qu)(a:qe)(b:qf)(c:Int)(e:List (Int×Unit)):Option (Bool×(List (Int×Unit))):=(qbI a b c a0 e).bind fun d=>some ((!d.1),d.2)
instance(a0:qu)(a:qe)(b:qf)(c:Int)(e:List (Int×Unit)):Co prog 184 (qcK a0 a b c e) (fun(nm:Nat)=>⟨[qp a0,.ptr (.clo (.func 105) [.ptr (.agg [qh a,qj b,.map nm,.int .i64 c])] [])],[.map nm (zb (D.int .i64) zM e)],fun res d σ=>d= .bool res.1∧σ=[.map nm (zb (D.int .i64) zM res.2)]⟩):=kO (fun _=>{}) func184 rfl (by unfold qcK;exact wO)
def qdj(a0:List qu)(a:qe)(b:qf)(c:Int)(g:List (Int×Unit)):Option (Int×(List (Int×Unit))):=forL (β:=(List (Int×Unit))) (fun i1 h d e=>(qcK h a b c d).bind fun f=>bif f.1 then some ((i1:Int),f.2)else e f.2) (fun d=>some ((-1),d)) 0 a0 g
def qi7(a:Nat):Tb:={ls:=[(0,⟨Nat×(List (Int×Unit)),[0,1,7],[],fun s e w=>([(8,.int .i64 (s.1:Int))],[.map a (zb (D.int .i64) zM s.2)]),[7]⟩)]}
instance(a0:List qu)(a:qe)(b:qf)(c:Int)(e:List (Int×Unit)):Co prog 244 (qdj a0 a b c e) (fun(nm:Nat)=>⟨[.lst (a0.map qp),.clo (.func 184) [] [.ptr (.clo (.func 105) [.ptr (.agg [qh a,qj b,.map nm,.int .i64 c])] [])]],[.map nm (zb (D.int .i64) zM e)],fun res d σ=>d= .int .i64 res.1∧σ=[.map nm (zb (D.int .i64) zM res.2)]⟩):=kO qi7 func244 rfl (by unfold qdj;exact wO)
end
theorem qA5{α:Type}(L:List α)(z:α)(j:Nat)(c:j<L.length):
 List.take j (List.take (min j (L.length-1)) (List.take j L)++List.replicate (L.length-1-min j (L.length-1)) z)++
  (List.take (min (L.length-(j+1)) (L.length-1-j)) (List.drop (j+1) (List.take L.length L))++
   List.drop (j+min (L.length-(j+1)) (L.length-1-j)) (List.take (min j (L.length-1)) (List.take j L)++List.replicate (L.length-1-min j (L.length-1)) z))=
 List.take j L++List.drop (j+1) L:=by
 have a:min j (L.length-1)=j:=by omega
 have b:min (L.length-(j+1)) (L.length-1-j)=L.length-1-j:=by omega
 have hl:(List.take j L).length=j:=by rw[jA];omega
 rw[a,b,Jo,Nat.min_self,vg (jf L.length)];rw[Jn oa,Jo,Nat.min_self];rw[vo (i:=j+(L.length-1-j)) (by rw[ja,hl,vz];omega),jv];rw[vg (i:=L.length-1-j) (by rw[j4];omega)]
theorem qy5(l:List (Int×At)):zx 3 (l.map zt):=zaQ fun _=>rfl
def zIt:D:=zt (0,⟨⟨#[]⟩,[]⟩)
def ixR(l:List (Int×At))(id:Int):Int:=match l.findIdx? (fun x=>x.1==id)with
 |none=> -1
 |some k=>(k:Int)
theorem idx9(l:List (Int×At))(id:Int):qae l id=some (ixR l id):=by
 have key:∀(l:List (Int×At))(k:Nat),forL (β:=Unit) (fun i1 c _ a=>((qdE c id).bind fun d=>(bif d then some ((i1:Int))else(a ())))) (fun _=>some ((-1))) k l ()=some (match l.findIdx? (fun x=>x.1==id)with|none=> -1|some j=>((k+j:Nat):Int)):=by
  intro l;induction l with
  |nil=>intro k;rfl
  |cons q l b=>
   intro k;rw[forL,List.findIdx?_cons];unfold qdE at b⊢;rw[jb];cases hq:q.1==id;rw[cond_false,b (k+1),if_neg (by exact Bool.noConfusion)];cases l.findIdx? (fun x=>x.1==id)with
   |none=>rfl
   |some j=>simp only[Jf];congr 2;omega
   rfl
 unfold qae ixR;rw[key l 0];simp only[jc]
theorem qA3{l:List (Int×At)}{x:Int}{res:List (Int×At)×Bool}(h:qiJ l x=some res):l.length≤1000000000∧(ixR l x<0→res=(l,false))∧(0≤ixR l x→∃j,ixR l x=((j:Nat):Int)∧j<l.length∧res=(l.eraseIdx j,true)):=by
 unfold qiJ at h;split at h
 rename_i hl
 refine⟨Nat.le_of_lt hl,?_⟩;unfold ixR;split at h
 rename_i hn
 rw[hn];exact⟨fun _=>(Option.some.inj h).symm,fun a=>by simp at a⟩;rename_i k b
 rw[b];refine⟨fun a=>by simp at a;omega,fun _=>⟨k,rfl,?_,(Option.some.inj h).symm⟩⟩;exact(J4.1 b).1;cases h
theorem qwb(l:List (Int×At))(x:Int)(res:List (Int×At)×Bool)(h:qiJ l x=some res):zf prog 200 [.lst (l.map zt),.int .i64 x] (.tup [.lst (res.1.map zt),.bool res.2]):=by
 obtain⟨hl,a⟩:=qA3 h;refine qam [(0,.lst (l.map zt)),(1,.int .i64 x)] func200 rfl rfl fun K hK=>(qx (gr [.d,.d] (rc rfl (rc rfl (qz (qx (gr [.d,.d,.d,.d,.d] (rf rfl (rf rfl (rd rfl (qcw rfl CaI.h (.oc rfl .nil) (qk7 x _ rfl)) (rd rfl (qcw rfl CaI.h (.oc rfl (.oc rfl .nil)) (qfP l x _ (idx9 l x))) (rc rfl (qz ?_)))))))))))))
 refine qx (qx (gr [.d,.d] (rf rfl (rd rfl (qcs rfl rfl rfl rfl) (qz ?_)))));refine qbB 13 rfl (fun b=>?_) (fun b=>?_);have a:=a.1 (by simpa using b);refine qS rfl (qx (gr [.d,.d,.d] (rf rfl (rc rfl (rc rfl (qz (qbN func200 _ (.cons (zd rfl (Wk.refl _)) (.cons (zd rfl (Wk.refl _)) .nil)) ?_)))))));rw[a];rfl
 ·
  obtain⟨j,f,c,a⟩:=a.2 (by simpa using b);rw[f];refine qL rfl (qaC (qx (gr [.d,.d,.d,.w,.d] (rf rfl (rd rfl (qx6 rfl qer rfl (asl rfl)) (rd rfl (y4 rfl rfl rfl rfl oe) (ew rfl (qrD (n:=(l.length-1)) rfl qer qtx rfl oe rfl oe oa oa) ?_)))))));rintro _ _ ⟨g,rfl,rfl⟩;refine rc rfl (qz (qx (gr [.d,.d,.d,.d,.w] (rf rfl (rf rfl (rf rfl (rd rfl (qsS 0 j rfl qer rfl (asl rfl) rfl ⟨_,_,rfl,rfl⟩ oa oe (((qy5 l)))) (ew rfl (qq6 _ rfl qer rfl rfl (asl rfl) (by first|exact List.Perm.refl _|exact List.Perm.swap _ _ _|exact perm3 _ _ _ _|exact perm4 _ _ _ _ _) og (((qy5 l).take _).drop _)) ?_))))))));rintro _ _ ⟨rfl,rfl⟩;refine qz (qx (ga [(0,.d),(1,.d),(2,.d),(3,.d),(4,.d),(5,.d),(6,.d),(7,.w)] (rf rfl (rf rfl (rd rfl (qyZ rfl qer rfl rfl rfl oa) (rf rfl (rf rfl (rd rfl (y4 (r:=((j+1:Nat):Int)) rfl rfl rfl (by simp[iar]) oa) (rd rfl (qsS (j+1) (l.map zt).length rfl qer rfl (asl rfl) ⟨_,_,rfl,rfl⟩ rfl oe oa (((qy5 l)))) (ew rfl (qq6 _ rfl qer rfl rfl (asl rfl) (by first|exact List.Perm.refl _|exact List.Perm.swap _ _ _|exact perm3 _ _ _ _|exact perm4 _ _ _ _ _) oe (((qy5 l).take _).drop _)) ?_))))))))));rintro _ _ ⟨rfl,rfl⟩;refine qz (qx (qkz 7 rfl (List.Perm.refl _) oe (gr [.d,.d,.d] (rf rfl (rc rfl (rc rfl (qz (qbN func200 _ (.cons (zd rfl (Wk.refl _)) (.cons (zd rfl (Wk.refl _)) .nil)) ?_))))))));rw[a];simp[yU];have e:=qA5 (l.map zt) zIt j (by simpa using c);rw[jh]at e;rw[List.eraseIdx_eq_take_drop_succ,jJ,vZ,JA];exact e
section
variable{P:Program}{o:Oper}{ρ:Operand→Option D}
theorem qzN{x:Operand}{t e:TypeId}(b:o.op= .call {callee:=.builtin .cap,args:=#[x],argTypes:=#[t]})(d:P.underlying t=some (.slice e))(f:ρ x=some (.own (.slice none 0 0) [])):zi P o ρ (.int .i64 0):=qM fun p a w h=>by
 have c:=h x (by rw[b];simp[Op.operands,Call.operands]) _ f;simp only[Rep]at c;refine⟨.int .i64 0,?_,by simp only[Rep];exact⟨trivial,rfl⟩⟩;unfold execOp;rw[b];simp[resolve,invoke,builtin,c.1,Builtin.cap_,run_underlying d,goInt]
theorem qCB{t e:TypeId}{x y:Operand}{s:Nat}{k:IntKind}(c:o.op= .slice t x none (some y) none)(hu:P.underlying t=some (.slice e))(hs:(P.info? e).map (·.size)=some s)(j:ρ x=some (.own (.slice none 0 0) []))(hy:ρ y=some (.int k 0)):zi P o ρ (.own (.slice none 0 0) []):=qM fun p a w h=>by
 have b:=h x (by rw[c];simp[Op.operands]) _ j;have g:=h y (by rw[c];simp[Op.operands]) _ hy;obtain⟨i,d,f⟩:=jC.1 hs;refine⟨.slice none 0 0,?_,by simp only[Rep]at b⊢;exact⟨trivial,b.2⟩⟩;simp only[Rep]at b g;unfold execOp;rw[c];have hb:(Instr.sliceBounds true 0 0 none (some (a.eval y)) none).run P w= .ok (0,0,0) w:=by
  simp[Instr.sliceBounds,g.1,Instr.sliceBound,asIntOf]
 simp[b.1,Instr.sliceAt,Instr.slice,run_underlying hu,hb,sizeOf,typeInfo,d,f]
theorem qAy{x y:Operand}{t g e:TypeId}{s by_:Nat}{n:Int}{σ τ:St}(j:o.op= .call {callee:=.builtin .append,args:=#[x,y],argTypes:=#[t,g]})(G:ElT P t e s by_)(q:P.underlying g=some (.int .i64))(H:ρ x=some (.own (.slice none 0 0) []))(hy:ρ y=some (.int .i64 n))(hn:0<n)(hb:n*by_≤140737488355328)(I:n≤4611686018427387904)(J:σ.Perm (.row (.slice none 0 0) 0 e s::τ)):
 zp P o ρ σ fun d' σ'=>∃A c,d'= .vec (.slice A n.toNat c) n.toNat∧c≤9223372036854775807∧σ'= .row (.slice A 0 c) 0 e s::τ:=fun K p a w hi h=>by
 obtain⟨hu,⟨z,L,r⟩,u⟩:=G;obtain⟨i,v,B,b,C⟩:=info_parts L;have hi:=(hi.perm J).tail;have E:=h x (by rw[j];simp[Op.operands,Call.operands]) _ H;have F:=h y (by rw[j];simp[Op.operands,Call.operands]) _ hy;simp only[Rep]at E F;obtain⟨m,rfl⟩:∃m:Nat,n=(m:Int):=⟨n.toNat,by omega⟩
 simp only[jO];have M:m*i.bytes≤140737488355328:=by
  rw[C];have:((m*by_:Nat):Int)≤140737488355328:=by rw[Jy];exact hb
  omega
 have hr:=Lib.run_append_nil_zeros (P:=P) w t g o.type e i z .i64 .i64 hu q v B m oa (by rw[b];exact u) oa oa;have d:=grownCap_ge w m 0 e;have hle:=grownCap_le_maxLen w m 0 e (by unfold maxLen;omega);have N:maxLen=9223372036854775807:=rfl;generalize grownCap w m 0 e=cap at hr d hle;have f:(execOp a.eval o).run P w= .ok (.value (.slice (some ⟨w.heap.size,0,none⟩) m cap)) (w.drew.alloc (.cells (Builtin.zeroCells z.cells m++Builtin.zeroCells z.cells (cap-m)) e)):=by
  unfold execOp;simp only[j,resolve,invoke,builtin,Sem.run_bind,Sem.run_pure,Result.andThen_ok,vF,jm,jU,E.1,F.1];rw[hr];rfl
 unfold Oper.wp;rw[f];obtain⟨O,U,Q,R⟩:=qqa (K:=K) (p:=p) (σ:=τ) (w:=w.drew) (cur:=Builtin.zeroCells z.cells m++Builtin.zeroCells z.cells (cap-m)) (e:=e) (s:=s) (n:=0) (cap:=cap) (l:=[]) (xs:=[]) hi.drew (by
  rw[Jc,size_zeroCells,size_zeroCells,r,←jE];congr 1
  omega) og (zj.nil _ _) og rfl (ju _) hle
 refine⟨_,.vec (.slice (some ⟨w.heap.size,0,none⟩) m cap) m,_,O,rfl,⟨_,_,rfl,by omega,rfl⟩,?_,Q,fun a S=>?_⟩
 · simp only[Rep]
   exact⟨trivial,_,_,rfl,d,by omega⟩
 · exact R a S
theorem qCN{t e:TypeId}{x y:Operand}{s n c:Nat}{A:Option Addr}{k:IntKind}(f:o.op= .slice t x none (some y) none)(hu:P.underlying t=some (.slice e))(hs:(P.info? e).map (·.size)=some s)(r:ρ x=some (.vec (.slice A n c) n))(hy:ρ y=some (.int k 0))(hn:0<n)(u:c≤9223372036854775807):zi P o ρ (.own (.slice A 0 c) []):=qM fun p a w h=>by
 have d:=h x (by rw[f];simp[Op.operands]) _ r;have q:=h y (by rw[f];simp[Op.operands]) _ hy;obtain⟨i,g,j⟩:=jC.1 hs;simp only[Rep]at d q;obtain⟨d,A',c',l,C,E⟩:=d;injection l with l F v
 subst l v;refine⟨.slice A 0 c,?_,by simp only[Rep];exact⟨trivial,A,c,[],rfl,ju _,u,.inl rfl,zj.nil _ _,by simp⟩⟩;unfold execOp;rw[f];have hb:(Instr.sliceBounds true n c none (some (a.eval y)) none).run P w= .ok (0,0,c) w:=by
  simp[Instr.sliceBounds,q.1,Instr.sliceBound,asIntOf]
 have m:c≠0:=by omega
 have z:A.map (fun x=>x.add 0)=A:=by
  cases A with
  |none=>rfl
  |some b=>obtain⟨G,H,B⟩:=b;cases B<;>rfl
 simp[d,Instr.sliceAt,Instr.slice,run_underlying hu,hb,sizeOf,typeInfo,g,j,m,z]
end
theorem zb3:ElT prog 337 359 8 112:=.of underlying337 ob od
theorem zb8:ElT prog 376 337 1 24:=.of underlying376 ob od
theorem tyLP4:Ty prog 337 false 1:=⟨⟨_,underlying337,rfl⟩,by kernel_rfl⟩
def ql4(n:Int):Option Unit:=if 0≤n∧n≤1000000000000 then some ()else none
theorem qr2{n:Int}{u:Unit}(h:ql4 n=some u):0≤n∧n≤1000000000000:=by
 unfold ql4 at h;split at h
 assumption;cases h
theorem qyw(n:Int){u:Unit}(hr:ql4 n=some u):Spec prog 330 [.own (.slice none 0 0) [],.int .i64 n] [.row (.slice none 0 0) 0 359 8] fun d σ'=>∃u,d= .own u []∧σ'=[.row u 0 359 8]:=by
 obtain⟨g,h⟩:=qr2 hr;have w0:wr (0-0)=0:=by decide
 have wn:wr (n-0)=n:=by rw[qex oa];omega
 refine qam [(0,.own (.slice none 0 0) []),(1,.int .i64 n)] func330 rfl rfl fun K hK=>(qx (gr [.d] (rc rfl (qz (qx (qx (gr [.d,.d] (rf rfl (rd rfl (qcs rfl rfl rfl rfl) (qz (qa7 6 false rfl (decide_eq_false oa) (qL rfl (qaC ?_)))))))))))))
 refine qx (qx (gr [.d,.d,.d,.d,.d,.d,.d,.d] (rf rfl (rf rfl (rd rfl (qzN rfl zb3.1 rfl) (rf rfl (rd rfl (qfU (f:=qC) ([]:List qy) rfl zb3 rfl (asl rfl)) (rd rfl (qqO rfl rfl rfl rfl) (rd rfl (qqO rfl rfl rfl rfl) (rc rfl (qz (qx (qvb 1 (d':=.int .i64 n) rfl (by exact congrArg (D.int .i64) wn) ?_)))))))))))));refine gr [.d,.d] (rf rfl (rd rfl (qcs rfl rfl rfl rfl) (qz ?_)));refine qbB 16 rfl (fun a=>?_) (fun a=>?_);have b:0<n:=of_decide_eq_true a;refine qS rfl (gr [.d,.d,.d,.d,.d,.w,.d,.d,.d,.d] (rf rfl (rf rfl (rd rfl (qzN rfl zb3.1 rfl) (rd rfl (qCB rfl zb3.1 (s:=8) ob rfl rfl) (rf rfl (ew rfl (qAy (τ:=[]) (n:=n) rfl zb3 underlying3 rfl rfl b oa oa (pf0 _)) ?_)))))));rintro _ _ ⟨A,c,rfl,e,rfl⟩;refine rf rfl (rd rfl (qfU (f:=qC) ([]:List qy) rfl zb3 rfl (asl rfl)) (rd rfl (qCN rfl zb3.1 (s:=8) ob rfl rfl oa e) (rc rfl (qz (qx (gr [.d,.d] (rf rfl (rc rfl (qz (qbN func330 _ (.cons (zd rfl (Wk.refl _)) .nil) ?_))))))))));exact⟨_,rfl,rfl⟩;refine qL rfl ?_;refine qaC (qx (gr [.d,.d] (rf rfl (rc rfl (qz (qbN func330 _ (.cons (zd rfl (Wk.refl _)) .nil) ?_))))));exact⟨_,rfl,rfl⟩
def qcy(k:List qy→Option (List qy)):List (List qy)→List qy→Option (List qy) |[],n7=>(k n7) |a::rest,n7=>(appO 112 n7 a).bind fun b=>qcy k rest b
def qcE(k:Int→Option (List qy)):List (List qy)→Int→Option (List qy) |[],s2=>(k s2) |a::rest,s2=>bif(decide ((wr (s2+(a.length:Int)))<(0:Int)))then (getI a (-1)).bind fun b=>qcE k rest (wr (s2+(a.length:Int)))  else qcE k rest (wr (s2+(a.length:Int)))
def qlZ(a0:List (List qy)):Option (List qy):=qcE (fun a=>(ql4 a).bind fun _=>qcy (fun n10=>some n10) a0 []) a0 0
theorem quV(a0:List (List qy))(res:List qy)(hr:qlZ a0=some res):zf prog 308 [.lst (a0.map (fun(l:List qy)=>D.lst (l.map qC)))] (.lst (res.map qC)):=by
 unfold qlZ at hr;refine qam [(0,.lst (a0.map (fun(l:List qy)=>D.lst (l.map qC))))] func308 rfl rfl fun K hK=>(qx (gr [.w] (ew rfl (qtP 359 8 (.inl rfl)) ?_)))
 rintro _ _ ⟨U,rfl,rfl⟩;refine qz (qx (gr [.d] (rc rfl (qz (qx (qx (gr [.d,.d,.d] (rf rfl (rd rfl (qfU (f:=(fun(l:List qy)=>D.lst (l.map qC))) a0 rfl zb8 rfl (asl rfl)) (rf rfl (qz ?_)))))))))));obtain⟨t,u,hr⟩:=exK (fun k=>qcE k a0 0) hr;refine qCx 0 rfl (asl rfl) fun v=>?_;simp only[jh]at v;refine qf1 (fun env σ=>∃(F:Int),env=[(0,.lst (a0.map (fun(l:List qy)=>D.lst (l.map qC)))),(3,.int .i64 F)]∧σ=[]∧t F=some res) ?_ (fun G=>?_);rintro _ _ ⟨F,rfl,rfl,hr⟩;rw[u]at hr;refine qx ?_;obtain⟨_,g,hr⟩:=zV hr;refine qt1 359 8 (gr [.d,.w,.d] (rf rfl (ew rfl (qee _ rfl CaI.h (.consN (.oc rfl .nil)) (by exact(pf0 _)) (qyw _ g)) ?_)));rintro _ _ ⟨_,⟨e,rfl,rfl⟩,rfl⟩;refine rc rfl (qz (qx (qx (gr [.d,.d,.d] (rf rfl (rd rfl (qfU (f:=(fun(l:List qy)=>D.lst (l.map qC))) a0 rfl zb8 rfl (asl rfl)) (rf rfl (qz ?_))))))));obtain⟨x,z,hr⟩:=exK (fun k=>qcy k a0 []) hr;refine qCx 0 rfl (asl rfl) fun A=>?_;simp only[jh]at A;refine qf1 (fun env σ=>∃(n10:List qy)(H:Value),env=[(6,.own H (n10.map qC))]∧σ=[.row H n10.length 359 8]∧x n10=some res) ?_ (fun I=>?_);rintro _ _ ⟨n10,H,rfl,rfl,hr⟩;rw[z]at hr;refine qx (gr [.d,.d] (rf rfl (rc rfl (qz ?_))));cases hr;refine qbN func308 _ (.cons (zd rfl (Wk.own _ _)) .nil) ?_;rfl;refine qcS [(25,.lst (a0.map (fun(l:List qy)=>D.lst (l.map qC)))),(26,.int .i64 (a0.length:Int)),(6,.own e ([].map qC)),(27,.int .i64 ((0:Nat):Int))] (sc rfl (sc rfl (sc rfl (sc rfl (Sub.nil _))))) (qhh (fun n env σ=>∃(n7:List qy)(i8:Nat)(B:Value),n=a0.length-i8∧(env=[(25,.lst (a0.map (fun(l:List qy)=>D.lst (l.map qC)))),(26,.int .i64 (a0.length:Int)),(6,.own B (n7.map qC)),(27,.int .i64 (i8:Int))])∧(σ=[.row B n7.length 359 8])∧(i8≤a0.length)∧(qcy x (a0.drop i8) n7=some res)) _ ⟨[],0,e,rfl,rfl,rfl,ju _,hr⟩ ?_);rintro n _ _ ⟨n7,i8,B,rfl,rfl,rfl,J,hr⟩ L;rcases zat a0 i8 J with⟨j,m,X⟩|⟨C,j,m,M,V⟩
 rw[m,qcy]at hr;refine qx (gr [.d] (rd rfl (qcs rfl rfl rfl rfl) (qz (qx (qa7 28 false rfl j (qL rfl (qi9 rfl (qcS [(6,.own B (n7.map qC))] (sc rfl (Sub.nil _)) ?_))))))));exact I _ _ ⟨n7,B,rfl,rfl,hr⟩;rw[m,qcy]at hr;refine qx (gr [.d] (rd rfl (qcs rfl rfl rfl rfl) (qz (qx (qa7 28 true rfl j (qS rfl (qaC (qx (qcj (qx (gr [.d,.d,.d] (rd rfl (qgj (f:=(fun(l:List qy)=>D.lst (l.map qC))) a0 rfl zb8 rfl (asl rfl) rfl M (fun _=>rfl) rfl) (rd rfl (qak rfl rfl (by exact tyLP4) rfl) ?_)))))))))))));refine rc rfl (qz (gr [.d,.d,.w,.d] (rf rfl (rf rfl ?_))));obtain⟨E,N,hr⟩:=zV hr;refine ew rfl (qlj (f:=qC) n7 C rfl zb3 rfl rfl (asl rfl) (pf0 _) rfl qg6 N) ?_;rintro _ _ ⟨a,rfl,rfl⟩;refine rc rfl (qz (qau (gr [.d,.d] (rd rfl (y4 (r:=((i8+1:Nat):Int)) rfl rfl rfl (by simp[iar]) oa) (rf rfl (qz (qcS [(25,.lst (a0.map (fun(l:List qy)=>D.lst (l.map qC)))),(26,.int .i64 (a0.length:Int)),(6,.own a (E.map qC)),(27,.int .i64 ((i8+1:Nat):Int))] (sc rfl (sc rfl (sc rfl (sc rfl (Sub.nil _))))) ?_)))))));exact L _ _ _ oa ⟨E,(i8+1),a,rfl,rfl,rfl,oa,hr⟩;refine qcS [(0,.lst (a0.map (fun(l:List qy)=>D.lst (l.map qC)))),(9,.lst (a0.map (fun(l:List qy)=>D.lst (l.map qC)))),(10,.int .i64 (a0.length:Int)),(3,.int .i64 0),(11,.int .i64 ((0:Nat):Int))] (sc rfl (sc rfl (sc rfl (sc rfl (sc rfl (Sub.nil _)))))) (qjd [] _ (pf0 _) (qhh (fun n env σ=>∃(s2:Int)(i3:Nat),n=a0.length-i3∧(env=[(0,.lst (a0.map (fun(l:List qy)=>D.lst (l.map qC)))),(9,.lst (a0.map (fun(l:List qy)=>D.lst (l.map qC)))),(10,.int .i64 (a0.length:Int)),(3,.int .i64 s2),(11,.int .i64 (i3:Int))])∧(σ=[])∧(i3≤a0.length)∧(qcE t (a0.drop i3) s2=some res)) _ ⟨0,0,rfl,rfl,rfl,ju _,hr⟩ ?_));rintro n _ _ ⟨s2,i3,rfl,rfl,rfl,O,hr⟩ Q;rcases zat a0 i3 O with⟨p,q,Y⟩|⟨b,p,q,R,W⟩
 rw[q,qcE]at hr;refine qx (gr [.d] (rd rfl (qcs rfl rfl rfl rfl) (qz (qx (qa7 12 false rfl p (qL rfl (qi9 rfl (qcS [(0,.lst (a0.map (fun(l:List qy)=>D.lst (l.map qC)))),(3,.int .i64 s2)] (sc rfl (sc rfl (Sub.nil _))) ?_))))))));exact G _ _ ⟨s2,rfl,rfl,hr⟩;rw[q,qcE]at hr;refine qx (gr [.d] (rd rfl (qcs rfl rfl rfl rfl) (qz (qx (qa7 12 true rfl p (qS rfl (qaC (qx (qcj (qx (gr [.d,.d,.d] (rd rfl (qgj (f:=(fun(l:List qy)=>D.lst (l.map qC))) a0 rfl zb8 rfl (asl rfl) rfl R (fun _=>rfl) rfl) (rd rfl (qak rfl rfl (by exact tyLP4) rfl) ?_)))))))))))));refine rc rfl (qz (qx (gr [.d,.d,.d,.d,.d] (rf rfl (rf rfl (rd rfl (qfU (f:=qC) b rfl zb3 rfl (asl rfl)) (rd rfl (qqO rfl rfl rfl rfl) (rc rfl (qz (qx (gr [.d,.d] (rf rfl (rd rfl (qcs rfl rfl rfl rfl) ?_)))))))))))));refine qz ?_;refine g_sB 20 rfl hr (fun c hr=>?_) (fun c hr=>?_);obtain⟨Z,S,hr⟩:=zV hr;exact absurd (qhL S).1 od;refine qL rfl (qaC (qau (gr [.d,.d] (rd rfl (y4 (r:=((i3+1:Nat):Int)) rfl rfl rfl (by simp[iar]) oa) (rf rfl (qz (qcS [(0,.lst (a0.map (fun(l:List qy)=>D.lst (l.map qC)))),(9,.lst (a0.map (fun(l:List qy)=>D.lst (l.map qC)))),(10,.int .i64 (a0.length:Int)),(3,.int .i64 (wr (s2+(b.length:Int)))),(11,.int .i64 ((i3+1:Nat):Int))] (sc rfl (sc rfl (sc rfl (sc rfl (sc rfl (Sub.nil _)))))) ?_)))))));exact Q _ _ _ oa ⟨(wr (s2+(b.length:Int))),(i3+1),rfl,rfl,rfl,oa,hr⟩
theorem qud{k:List qy→Option (List qy)}:∀(l:List (List qy))(acc:List qy),acc.length+l.flatten.length<1000000000→qcy k l acc=k (acc++l.flatten)
 |[],acc,_=>by rw[qcy,JY,jv]
 |q::l,acc,h=>by
  rw[vM,ja]at h;rw[qcy,qeL oa oa,jb,qud l _ (by rw[ja];omega),vM,jo]
theorem qtW{k:Int→Option (List qy)}:∀(l:List (List qy))(n:Nat),n+l.flatten.length<1000000000→qcE k l (n:Int)=k ((n+l.flatten.length:Nat):Int)
 |[],n,_=>by rw[qcE];rfl
 |q::l,n,h=>by
  rw[vM,ja]at h;have e:wr ((n:Int)+(q.length:Int))=((n+q.length:Nat):Int):=by rw[qex oa];omega
  rw[qcE,e,decide_eq_false oa,cond_false,qtW l _ oa,vM,ja,jS]
theorem qvn(l:List (List qy))(res:List qy)(h:qlG l=some res):zf prog 308 [.lst (l.map (fun(l:List qy)=>D.lst (l.map qC)))] (.lst (res.map qC)):=by
 unfold qlG at h;split at h
 rename_i hl
 refine quV l res ?_;unfold qlZ;rw[←h];have:=qtW (k:=fun a=>((ql4 a).bind fun _=>(qcy (fun n10=>some n10) l []))) l 0 oa;rw[jc]at this;refine this.trans ?_;rw[show ql4 ((l.flatten.length:Nat):Int)=some ()from if_pos oa,jb,qud l [] (by simpa using hl.1)];rfl;cases h
section
variable{P:Program}{o:Oper}{ρ:Operand→Option D}
abbrev hdS(g n c:Nat):Value:=.slice (some ⟨g,0,none⟩) n c
theorem qzD{x:Operand}{t e:TypeId}{g n c:Nat}(d:o.op= .call {callee:=.builtin .cap,args:=#[x],argTypes:=#[t]})(j:P.underlying t=some (.slice e))(l:ρ x=some (.vec (hdS g n c) n)):zi P o ρ (.int .i64 (c:Int)):=qM fun p a w h=>by
 have b:=h x (by rw[d];simp[Op.operands,Call.operands]) _ l;simp only[Rep]at b;obtain⟨b,A,c',f,q,r⟩:=b;injection f with f u m
 subst m;refine⟨.int .i64 (c:Int),?_,by simp only[Rep];exact⟨trivial,wrap64 oa⟩⟩;unfold execOp;rw[d];simp[resolve,invoke,builtin,b,Builtin.cap_,run_underlying j,goInt]
theorem qfJ{t e:TypeId}{x y:Operand}{s by_ g n c lo:Nat}{k:IntKind}(d:o.op= .slice t x (some y) none none)(l:ElT P t e s by_)(q:ρ x=some (.vec (hdS g n c) n))(hy:ρ y=some (.int k (lo:Int)))(hle:lo≤n):zi P o ρ (.arr g s lo (n-lo)):=qM fun p a w h=>by
 have b:=h x (by rw[d];simp[Op.operands]) _ q;have m:=h y (by rw[d];simp[Op.operands]) _ hy;simp only[Rep]at b m;obtain⟨b,A,c',f,v,z⟩:=b;injection f with f B r
 subst f r;obtain⟨i,hi,j⟩:=jC.1 l.size;refine⟨.slice (if c=lo then some ⟨g,0,none⟩else(some (⟨g,0,none⟩:Addr)).map (·.add (lo*s))) (n-lo) (c-lo),?_,?_⟩;unfold execOp;rw[d];have hb:(Instr.sliceBounds true n c (some (a.eval y)) none none).run P w= .ok (lo,n,c) w:=by
  unfold Instr.sliceBounds;simp[m.1,Instr.sliceBound,asIntOf,hle]
 simp[b,Instr.sliceAt,Instr.slice,run_underlying l.1,hb,sizeOf,typeInfo,hi,j];simp only[Rep];refine⟨_,c-lo,rfl,by omega,by omega,?_⟩;by_cases u:n=lo;exact .inl oa;right;rw[if_neg oa];simp[zan]
theorem qqs{t e:TypeId}{x y:Operand}{s by_ g n c hi:Nat}{k:IntKind}(d:o.op= .slice t x none (some y) none)(m:ElT P t e s by_)(r:ρ x=some (.vec (hdS g n c) n))(hy:ρ y=some (.int k (hi:Int)))(hle:hi≤c):zi P o ρ (.vec (hdS g hi c) hi):=qM fun p a w h=>by
 have b:=h x (by rw[d];simp[Op.operands]) _ r;have q:=h y (by rw[d];simp[Op.operands]) _ hy;simp only[Rep]at b q;obtain⟨b,A,c',f,z,u⟩:=b;injection f with f B v
 subst f v;obtain⟨i,j,l⟩:=jC.1 m.size;refine⟨hdS g hi c,?_,by simp only[Rep];exact⟨trivial,_,_,rfl,hle,u⟩⟩;unfold execOp;rw[d];have hb:(Instr.sliceBounds true n c none (some (a.eval y)) none).run P w= .ok (0,hi,c) w:=by
  unfold Instr.sliceBounds;simp[q.1,Instr.sliceBound,asIntOf,hle]
 have he:(if c=0 then some (⟨g,0,none⟩:Addr)else(some (⟨g,0,none⟩:Addr)).map (·.add (0*s)))=some ⟨g,0,none⟩:=by split<;>simp[zan]
 simp[b,Instr.sliceAt,Instr.slice,run_underlying m.1,hb,sizeOf,typeInfo,j,l,zan]
theorem qnR{p:Addr→Prop}{w:World}{g n c:Nat}{l:List D}{e:TypeId}{s:Nat}(h:zbb p w (.vec (hdS g n c) l e s)):
 n=l.length∧zx s l∧0<s∧∃xs cur,zj p w l xs∧(∀x∈xs,x.oneCell'=true)∧w.heap[g]? =some (.cells cur e (0,0))∧(∀a,p a→a.block≠g)∧l.length≤c∧c≤maxLen∧cur.size=c*s∧cur.toList.take (l.length*s)=xs:=by
 obtain⟨d,f,⟨xs,⟨F,j⟩,m,q⟩,r⟩:=h;rcases j with⟨b,_⟩|⟨G,cap,cur,b,_,t,u,v,z,A⟩
 · injection b with b;cases b
 · injection b with b B C
   injection b with b
   injection b with b
   subst b C;exact⟨B,d,f,xs,cur,m,q,t,fun a E hb=>r g rfl a E hb,u,v,z,A⟩
theorem qnL{K:Ctx}{p:Addr→Prop}{τ:St}{w:World}{g n c:Nat}{l l':List D}{e:TypeId}{s:Nat}{xs':List Value}{cur':Array Value}(h:Inv K p (.vec (hdS g n c) l e s::τ) w)(j:zx s l')(hr:zj p w l' xs')(A:∀x∈xs',x.oneCell'=true)(q:cur'.size=c*s)(B:cur'.toList.take (l'.length*s)=xs')(C:l'.length≤c):
 Inv K p (.vec (hdS g l'.length c) l' e s::τ) (w.setRow g cur')∧zE p w p (w.setRow g cur'):=by
 have r:=h.ok _ (je ..);obtain⟨_,_,E,xs,cur,_,_,F,v,_,G,_,_⟩:=qnR r;have d:∀a,p a→(w.setRow g cur').cell? a=w.cell? a:=fun a f=>qdy (setRow_other w g _ _ (v a f));have gr:zE p w p (w.setRow g cur'):=fun a f=>⟨f,d a f⟩
 refine⟨?_,gr⟩;have z:=hr.len;rw[j.szs]at z;refine h.write (b:=g) rfl rfl gr (fun a f=>.inl f) ⟨j,E,⟨xs',⟨z,.inr ⟨g,c,cur',rfl,ju _,setRow_heap w g _ _ _ _ F,C,G,q,B⟩⟩,hr.grow gr,A⟩,fun I m a f t=>v a f (by simp only[Value.ownBlock,Option.some.injEq]at m;exact t.trans m.symm)⟩ (fun a f=>?_) rfl rfl rfl og fun k H=>setRow_other w g k _ H;obtain⟨u,hu⟩:=h.pub a f;exact⟨u,by rw[d a f];exact hu⟩
theorem qjN{t t' e:TypeId}{x y:Operand}{s by_ g n c lo m1:Nat}{σ:St}(τ:St){l l2:List D}{X:D}(H:o.op= .call {callee:=.builtin .copy,args:=#[x,y],argTypes:=#[t,t']})(Y:ElT P t e s by_)(hx:ρ x=some (.arr g s lo m1))(hy:ρ y=some X)(I:AsL X l2)(hσ:σ.Perm (.vec (hdS g n c) l e s::τ))(J:l2.length≤m1)(B:lo+l2.length≤l.length)(C:0<l2.length)(q:zx s l2):
 zp P o ρ σ fun d' σ'=>d'= .int .i64 ((l2.length:Nat):Int)∧σ'= .vec (hdS g n c) (l.take lo++l2++l.drop (lo+l2.length)) e s::τ:=fun K p a w hi h=>by
 have G:=h x (by rw[H];simp[Op.operands,Call.operands]) _ hx;have h2:=I.rep (h y (by rw[H];simp[Op.operands,Call.operands]) _ hy);simp only[Rep]at G;obtain⟨A,c1,G,h3,h4,h5⟩:=G;obtain⟨A2,c2,b,k1,k2,k3,k4,Z,k6⟩:=h2;have E:=hi.perm hσ;obtain⟨i,L,M⟩:=jC.1 Y.size;have N:=E.ok _ (je ..);obtain⟨O,F,g0,xs,cur,Q,g4,g5,g6,q1,q2,q3,q4⟩:=qnR N;have hA:=h5.resolve_left oa;subst hA;have hxl:xs.length=l.length*s:=by rw[Q.len,F.szs]
 have f:b.length=l2.length*s:=by rw[Z.len,q.szs]
 have hmp:0<l2.length*s:=j6 C g0;have S:(lo+l2.length)*s≤l.length*s:=jH s B;rw[jE]at S;have hcs:l.length*s≤c*s:=jH s q1;have hcl:cur.toList.length=c*s:=by simpa using q3
 have U:b≠[]:=fun hh=>by rw[hh]at f;simp at f;omega
 obtain⟨b2,o2,rfl,V⟩:=k4.resolve_left U;have m:=run_loadCells_list (P:=P) w ⟨b2,o2,none⟩ b fun j v hv=>by
  rw[zan];exact(V j v hv).2
 have z:=run_storeCells_at (P:=P) g (lo*s) e b 0 cur w g5 oa k6;simp only[vh]at z;generalize r:(cur.toList.take (lo*s)++b++cur.toList.drop (lo*s+b.length)).toArray=cur' at z;have hr:(execOp a.eval o).run P w= .ok (.value (.int .i64 (l2.length:Int))) (w.setRow g cur'):=by
  unfold execOp;rw[H];rw[f]at m;have W:Nat.min l2.length m1=l2.length:=vu J;simp[resolve,invoke,builtin,G,k1,Builtin.copy_,run_underlying Y.1,Builtin.lenOf,Builtin.firstCells,sizeOf,typeInfo,L,M,W,m,z,goInt]
 have t1:szs (l.take lo)=lo*s:=by rw[(F.take lo).szs,jA];congr 1;omega
 have t3:szs (l.take (lo+l2.length))=lo*s+l2.length*s:=by rw[(F.take (lo+l2.length)).szs,jA,←jE];congr 1;omega
 have r1:=Q.take lo;have r3:=Q.drop (lo+l2.length);rw[t1]at r1;rw[t3]at r3;have d:(l.take lo++l2++l.drop (lo+l2.length)).length=l.length:=by simp;omega
 have e1:cur.toList.take (lo*s)=xs.take (lo*s):=by rw[←q4,Jo,vu oa]
 obtain⟨R,hR⟩:∃R,cur.toList=xs++R:=⟨cur.toList.drop (l.length*s),by rw[←q4,j7]⟩
 have hw:=qnL (cur':=cur') E (((F.take lo).app q).app (F.drop (lo+l2.length))) (zj.app (zj.app r1 Z) r3) (fun u hu=>by
  rcases jl.1 hu with hu|hu
  rcases jl.1 hu with hu|hu
  exact g4 u (j9 hu);exact k6 u hu;exact g4 u (vy hu)) (by
  rw[←r,jV];simp only[ja,jA,j4];omega) (by
  rw[d,←r,e1,hR,JE oa,f];show List.take _ (List.take (lo*s) xs++b++(List.drop (lo*s+l2.length*s) xs++R))=_;rw[←jo];refine vE ?_;simp only[ja,jA,j4];omega) (by rw[d];exact q1)
 rw[d,←O]at hw;unfold Oper.wp;rw[hr];exact⟨_,.int .i64 (l2.length:Int),_,p,rfl,⟨rfl,rfl⟩,by simp only[Rep];exact⟨trivial,wrap64 oa⟩,hw.1,hw.2⟩
theorem quu{r Y:Nat}{t t' e:TypeId}{x y:Operand}{s by_ g n c lo m1:Nat}{σ:St}(τ:St){l:List D}(H:o.op= .call {callee:=.builtin .copy,args:=#[x,y],argTypes:=#[t,t']})(Z:ElT P t e s by_)(hx:ρ x=some (.arr g s r m1))(hy:ρ y=some (.arr g s lo Y))(I:r=lo+1)(J:Y=m1+1)(hσ:σ.Perm (.vec (hdS g n c) l e s::τ))(z:lo+m1=l.length)(f:0<m1)(hc:l.length+1≤c):
 zp P o ρ σ fun d' σ'=>d'= .int .i64 ((m1:Nat):Int)∧σ'= .vec (hdS g (n+1) c) (l.take (lo+1)++l.drop lo) e s::τ:=fun K p a w hi h=>by
 subst I J;have G:=h x (by rw[H];simp[Op.operands,Call.operands]) _ hx;have h2:=h y (by rw[H];simp[Op.operands,Call.operands]) _ hy;simp only[Rep]at G h2;obtain⟨A,c1,G,h3,h4,h5⟩:=G;obtain⟨A2,c2,k1,k2,k3,k4⟩:=h2;have B:=hi.perm hσ;obtain⟨i,L,M⟩:=jC.1 Z.size;have N:=B.ok _ (je ..);obtain⟨O,C,g0,xs,cur,Q,S,g5,g6,q1,q2,q3,q4⟩:=qnR N;have hA:=h5.resolve_left oa;have U:=k4.resolve_left oa;subst hA U;have hxl:xs.length=l.length*s:=by rw[Q.len,C.szs]
 have hmp:0<m1*s:=j6 f g0;have hls:l.length*s=lo*s+m1*s:=by rw[←z,jE]
 have hlo1:(lo+1)*s=lo*s+s:=by rw[jE,vx]
 have V:(l.length+1)*s≤c*s:=jH s hc;rw[jE,vx]at V;have hm1s:s≤m1*s:=by have:=jH s f;omega
 have hcl:cur.toList.length=c*s:=by simpa using q3
 obtain⟨R,hR⟩:∃R,cur.toList=xs++R:=⟨cur.toList.drop (l.length*s),by rw[←q4,j7]⟩
 have W:(xs.drop (lo*s)).length=m1*s:=by rw[j4];omega
 have d:=run_loadCells_list (P:=P) w ⟨g,lo*s,none⟩ (xs.drop (lo*s)) fun j v E=>by
  rw[zan,cell_of_row _ _ _ _ _ _ g5];rw[List.getElem?_drop]at E;rw[←vc,hR,j3 (jd.1 E).1];exact E
 have F:∀v∈xs.drop (lo*s),v.oneCell'=true:=fun v E=>S v (vy E);have q:=run_storeCells_at (P:=P) g ((lo+1)*s) e (xs.drop (lo*s)) 0 cur w g5 oa F;simp only[vh]at q;generalize m:(cur.toList.take ((lo+1)*s)++xs.drop (lo*s)++cur.toList.drop ((lo+1)*s+(xs.drop (lo*s)).length)).toArray=cur' at q;have hr:(execOp a.eval o).run P w= .ok (.value (.int .i64 (m1:Int))) (w.setRow g cur'):=by
  unfold execOp;rw[H];rw[W]at d;have X:Nat.min (m1+1) m1=m1:=Nat.min_eq_right oa;simp[resolve,invoke,builtin,G,k1,Builtin.copy_,run_underlying Z.1,Builtin.lenOf,Builtin.firstCells,sizeOf,typeInfo,L,M,X,d,q,goInt]
 have t1:szs (l.take (lo+1))=(lo+1)*s:=by rw[(C.take (lo+1)).szs,jA];congr 1;omega
 have t3:szs (l.take lo)=lo*s:=by rw[(C.take lo).szs,jA];congr 1;omega
 have r1:=Q.take (lo+1);have r3:=Q.drop lo;rw[t1]at r1;rw[t3]at r3;have b:(l.take (lo+1)++l.drop lo).length=l.length+1:=by simp;omega
 have e1:cur.toList.take ((lo+1)*s)=xs.take ((lo+1)*s):=by rw[←q4,Jo,vu oa]
 have hw:=qnL (cur':=cur') B ((C.take (lo+1)).app (C.drop lo)) (zj.app r1 r3) (fun u hu=>by
  rcases jl.1 hu with hu|hu
  exact S u (j9 hu);exact S u (vy hu)) (by
  rw[←m,jV];simp only[ja,jA,j4];omega) (by
  rw[b,←m,e1];show List.take _ (List.take ((lo+1)*s) xs++xs.drop (lo*s)++List.drop _ cur.toList)=_;refine vE ?_;simp only[ja,jA,j4,jE,vx];omega) (by rw[b];exact hc)
 rw[b,←O]at hw;unfold Oper.wp;rw[hr];exact⟨_,.int .i64 (m1:Int),_,p,rfl,⟨rfl,rfl⟩,by simp only[Rep];exact⟨trivial,wrap64 oa⟩,hw.1,hw.2⟩
theorem quc{x y:Operand}{t X e:TypeId}{s by_ g n c lo m:Nat}{G:D}{σ τ:St}{l:List D}(Y:o.op= .call {callee:=.builtin .append,args:=#[x,y],argTypes:=#[t,X]})(hE:ElT P t e s by_)(hZ:yv P e G)(Z:P.underlying X=some (.int .i64))(B:ρ x=some (.vec (hdS g lo c) lo))(hy:ρ y=some (.int .i64 (m:Int)))(hσ:σ.Perm (.vec (hdS g n c) l e s::τ))(hlo:lo≤l.length)(hm:0<m)(q:c<lo+m)(hln:lo+m≤1000000000)(hb:(lo+m)*by_≤140737488355328):
 zp P o ρ σ fun d' σ'=>∃g' c',d'= .vec (hdS g' (lo+m) c') (lo+m)∧σ'= .vec (hdS g' (lo+m) c') (l.take lo++List.replicate m G) e s:: .vec (hdS g n c) l e s::τ:=fun K p a w hi h=>by
 obtain⟨hu,⟨z,hz,J⟩,L⟩:=hE;obtain⟨i,M,N,r,O⟩:=info_parts hz;have h1:=h x (by rw[Y];simp[Op.operands,Call.operands]) _ B;have h2:=h y (by rw[Y];simp[Op.operands,Call.operands]) _ hy;simp only[Rep]at h1 h2;have hi:=hi.perm hσ;have hob:=hi.ok _ (je ..);obtain⟨hnl,g1,g0,xs,cur,g3,g4,g5,g6,q1,q2,q3,q4⟩:=qnR hob;obtain⟨v,v',H,z2,z3,z4⟩:=hZ.rep p w;rw[M]at H;simp only[Jf,Option.some.injEq]at H;rw[N]at H;injection H with H
 subst H;have Q:sz G=s:=by rw[←Rep.sz z2,z3,J]
 obtain⟨R,hR⟩:∃R,cur.toList=xs++R:=⟨cur.toList.drop (l.length*s),by rw[←q4,j7]⟩
 have hxl:xs.length=l.length*s:=by rw[g3.len,g1.szs]
 have hls:lo*s≤l.length*s:=jH s hlo;have E:(xs.take (lo*s)).length=lo*s:=by rw[jA];omega
 have f:=run_loadCells_list (P:=P) w.drew ⟨g,0,none⟩ (xs.take (lo*s)) fun j v I=>by
  rw[zan,World.cell?_drew,jc,cell_of_row _ _ _ _ _ _ g5];have hj:=(jd.1 I).1;rw[E]at hj;rw[jZ,if_pos hj]at I;rw[←vc,hR,j3 (jd.1 I).1];exact I
 rw[E]at f;have f:(Builtin.firstCells i.size lo (.slice (some ⟨g,0,none⟩) lo c)).run P w.drew= .ok (xs.take (lo*s)).toArray w.drew:=by
  show(loadCells _ (lo*i.size)).run P w.drew=_;rw[r];exact f
 have hmx:maxLen=9223372036854775807:=rfl;have hmb:m*i.bytes≤(lo+m)*by_:=by rw[O];exact jH _ oa
 have hr:=Lib.run_append_grow_zeros (P:=P) w t X o.type e i z .i64 .i64 hu Z M N (some ⟨g,0,none⟩) lo c (xs.take (lo*s)) f m hm (by rw[r];exact L) q oa oa (growslice_fits q (by rw[O];exact hb));have F:=grownCap_ge w (lo+m) c e;have hle:=grownCap_le_maxLen w (lo+m) c e (by unfold maxLen;omega);generalize grownCap w (lo+m) c e=cap at hr F hle;have S:(execOp a.eval o).run P w= .ok (.value (hdS w.heap.size (lo+m) cap)) (w.drew.alloc (.cells ((xs.take (lo*s)).toArray++Builtin.zeroCells z.cells m++Builtin.zeroCells z.cells (cap-(lo+m))) e)):=by
  unfold execOp;simp only[Y,resolve,invoke,builtin,Sem.run_bind,Sem.run_pure,Result.andThen_ok,vF,jm,jU,h1.1,h2.1];rw[hr];rfl
 have hzc:(Builtin.zeroCells z.cells m).toList=(List.replicate m v').flatMap fun(v:Value)=>v.cells.toList:=by
  have e1:Builtin.zeroCells z.cells m=madeCells z.cells (m*z.cells.size):=rfl;rw[e1,qlY _ _ oa];have:∀m,(List.replicate m z.cells).flatMap (fun z=>z.toList)=(List.replicate m v').flatMap fun(v:Value)=>v.cells.toList:=by
   intro m;induction m with
   |zero=>rfl
   |succ m ih=>simp only[vV,vl,ih,z3]
  exact this m
 have U:∀u∈(List.replicate m v').flatMap (fun(v:Value)=>v.cells.toList),u.oneCell'=true:=fun u hu=>by
  obtain⟨v'',V,hu⟩:=JR.1 hu;rw[Jg V]at hu;exact Rep.one z2 z4 u hu
 have C:zx s (l.take lo++List.replicate m G):=(g1.take lo).app fun d hd=>by rw[Jg hd];exact Q
 have t1:szs (l.take lo)=lo*s:=by rw[(g1.take lo).szs,jA];congr 1;omega
 have r1:=g3.take lo;rw[t1]at r1;have W:=zj.app r1 (qfk z2 m);have b:(l.take lo++List.replicate m G).length=lo+m:=by simp;omega
 have hlen:=W.len;rw[C.szs,b]at hlen;have A:∀x,p x→x.block≠w.heap.size:=fun x B e=>by
  obtain⟨v,I⟩:=hi.pub x B;have:=qfs I;omega
 unfold Oper.wp;rw[S];refine⟨_,.vec (hdS w.heap.size (lo+m) cap) (lo+m),_,p,rfl,⟨_,_,rfl,rfl⟩,by simp only[Rep];exact⟨trivial,_,cap,rfl,F,by omega⟩,(hi.drew.alloc _).more (o:=.vec (hdS w.heap.size (lo+m) cap) (l.take lo++List.replicate m G) e s) ⟨C,L,⟨_,⟨by rw[hlen,b],.inr ⟨w.heap.size,cap,_,by rw[b],ju _,World.alloc_heap_new w.drew _,by rw[b];exact F,hle,?_,?_⟩⟩,(W.grow (qdu p w)).grow (qaw hi.drew.pub _),fun u hu=>?_⟩,fun g' hg x B=>?_⟩ fun x B=>?_,(qdu p w).tr (qaw hi.drew.pub _)⟩
 · rw[Jc,Jc,size_zeroCells,size_zeroCells,J,jV,E,←jE,←jE]
   congr 1
   omega
 · rw[b]
   rw[Jd,Jd,hzc];exact vE hlen
 · rcases jl.1 hu with hu|hu
   · exact g4 u (j9 hu)
   · exact U u hu
 · simp only[Value.ownBlock,Option.some.injEq]at hg
   subst hg;exact A x B
 · simp only[Ob.blk,Value.ownBlock,Option.some.injEq]at B
   subst B;exact⟨.inl hi.drew.size,fun hh=>absurd (hi.drew.lt hh) (JI _)⟩
theorem qrj{x y:Operand}{t e:TypeId}{s by_:Nat}{m:List D}{V:D}{σ:St}(N:o.op= .call {callee:=.builtin .append,args:=#[x,y],argTypes:=#[t,t]})(Y:ElT P t e s by_)(n:ρ x=some (.full []))(hy:ρ y=some V)(hm:AsL V m)(G:zx s m)(O:0<m.length)(hb:m.length*by_≤140737488355328)(Z:m.length≤1000000000):zp P o ρ σ fun d' σ'=>∃g c,d'= .vec (hdS g m.length c) m.length∧σ'= .vec (hdS g m.length c) m e s::σ:=fun K p a w hi h=>by
 obtain⟨hu,⟨z,hz,Q⟩,H⟩:=Y;obtain⟨i,I,J,q,R⟩:=info_parts hz;have L:=h x (by rw[N];simp[Op.operands,Call.operands]) _ n;obtain⟨A,c,ys,g1,g2,g3,S,W,g6⟩:=hm.rep (h y (by rw[N];simp[Op.operands,Call.operands]) _ hy);simp only[Rep,ji]at L;obtain⟨B,xs,k1,k2,k3,k4,k5⟩:=L;have d:ys.length=m.length*s:=by rw[W.len,G.szs]
 have u:∀r,(Builtin.append_ #[t,t] o.type #[.slice B 0 0,.slice A m.length c]).run P w=r→(execOp a.eval o).run P w=r.andThen fun v w'=>.ok (.value v) w':=fun r hr=>by
  subst hr;unfold execOp;simp only[N,resolve,invoke,builtin,Sem.run_bind,Sem.run_pure,Result.andThen_ok,vF,jm,jU,k1,g1]
 have C:ys≠[]:=fun C=>by
  rw[C]at d;have:=j6 O H;simp at d;omega
 rcases S with S|⟨b,o',rfl,E⟩
 exact absurd S C;have f:∀j v,ys[j]? =some v→w.cell? ((⟨b,o',none⟩:Addr).add j)=some v:=fun j v U=>by rw[zan];exact(E j v U).2
 subst q;subst R;have M:grownCap w m.length 0 e≤maxLen:=grownCap_le_maxLen w m.length 0 e (by unfold maxLen;omega);have hmx:maxLen=9223372036854775807:=rfl;have F:=grownCap_ge w m.length 0 e;have hr:(Builtin.append_ #[t,t] o.type #[.slice B 0 0,.slice (some ⟨b,o',none⟩) m.length c]).run P w= .ok (hdS w.heap.size m.length (grownCap w m.length 0 e)) (w.drew.alloc (.cells (ys.toArray++Builtin.zeroCells z.cells (grownCap w m.length 0 e-m.length)) e)):=by
  cases B with
  |none=>exact run_append_nil (P:=P) w t o.type e i z hu I J ⟨b,o',none⟩ m.length c ys d f oa oa oa
  |some ad=>
   have hr:=run_append_grow (P:=P) w t o.type e i z hu I J ad 0 0 [] og og ⟨b,o',none⟩ m.length c ys d f oa oa (growslice_fits oa (by simpa using hb));simp only[jc]at hr;have e0:([]:List Value).toArray++ys.toArray++Builtin.zeroCells z.cells (grownCap w m.length 0 e-m.length)=ys.toArray++Builtin.zeroCells z.cells (grownCap w m.length 0 e-m.length):=by simp
   rw[e0]at hr;exact hr
 have l:∀x,p x→x.block≠w.heap.size:=fun x n e=>by
  obtain⟨v,U⟩:=hi.pub x n;have:=qfs U;omega
 generalize grownCap w m.length 0 e=cap at hr M F;unfold Oper.wp;rw[u _ hr];refine⟨_,.vec (hdS w.heap.size m.length cap) m.length,_,p,rfl,⟨_,_,rfl,rfl⟩,by simp only[Rep];exact⟨trivial,_,cap,rfl,F,by omega⟩,(hi.drew.alloc _).more (o:=.vec (hdS w.heap.size m.length cap) m e i.size) ⟨G,H,⟨ys,⟨d,.inr ⟨w.heap.size,cap,_,rfl,ju _,World.alloc_heap_new w.drew _,F,M,?_,?_⟩⟩,(W.grow (qdu p w)).grow (qaw hi.drew.pub _),g6⟩,fun g' X x n=>?_⟩ fun x n=>?_,(qdu p w).tr (qaw hi.drew.pub _)⟩;rw[Jc,size_zeroCells,jV,d,Q,←jE];congr 1
 omega;rw[Jd];exact vE (by rw[d]);simp only[Value.ownBlock,Option.some.injEq]at X;subst X;exact l x n;simp only[Ob.blk,Value.ownBlock,Option.some.injEq]at n;subst n;exact⟨.inl hi.drew.size,fun hh=>absurd (hi.drew.lt hh) (JI _)⟩
theorem qw2{x y:Operand}{t e:TypeId}{s by_:Nat}{l:D}(f:o.op= .call {callee:=.builtin .append,args:=#[x,y],argTypes:=#[t,t]})(q:ElT P t e s by_)(r:ρ x=some (.full []))(hy:ρ y=some l)(hm:AsL l []):zi P o ρ (.full []):=qM fun p a w h=>by
 obtain⟨hu,⟨z,u,v⟩,C⟩:=q;obtain⟨i,g,E,j,F⟩:=info_parts u;have b:=h x (by rw[f];simp[Op.operands,Call.operands]) _ r;obtain⟨A,c,ys,m,G,H,I,J,K⟩:=hm.rep (h y (by rw[f];simp[Op.operands,Call.operands]) _ hy);have d:=b;simp only[Rep,ji]at b m;obtain⟨B,xs,n,L,M,N,O⟩:=b;rw[n]at d;refine⟨.slice B 0 0,?_,d⟩;unfold execOp;rw[f];cases A<;>cases B<;>simp[resolve,invoke,builtin,n,m,Builtin.append_,run_underlying hu,sizeOf,typeInfo,g,Builtin.lenOf,Builtin.firstCells,loadCells,loadCellsFrom,storeCells]
theorem qxo{f:FuncId}{fn:Func}{x y:Operand}{ats:Array TypeId}{t tr e:TypeId}{s by_ g n c g2 n2 c2 lo m:Nat}{σ τ:St}{l l2:List D}(ho:o.op= .call {callee:=.value (.func f),args:=#[x,y],argTypes:=ats})(hf:P.funcs[f]? =some fn)(hname:(fn.name== "runtime.NumGoroutine")=false)(hb:fn.body.isNone=true)(hn:Extern.findNext fn=none)(he:Extern.find fn=some (Extern.SlicesOverlaps.overlaps #[t,t] #[tr]))(hE:ElT P t e s by_)
 (hx:ρ x=some (.vec (hdS g2 n2 c2) n2)) (hy:ρ y=some (.arr g s lo m)) (hσ:σ.Perm (.vec (hdS g2 n2 c2) l2 e s:: .vec (hdS g n c) l e s::τ)) (hm:0<m) (hl:0<l.length):zp P o ρ σ fun d' σ'=>d'= .bool false∧σ'=σ:=fun K p a w hi h=>by
 have h1:=h x (by rw[ho];simp[Op.operands,Call.operands]) _ hx;have h2:=h y (by rw[ho];simp[Op.operands,Call.operands]) _ hy;simp only[Rep]at h1 h2;obtain⟨h1,_⟩:=h1;obtain⟨A,c1,h2,_,_,h5⟩:=h2;have hA:=h5.resolve_left oa;subst hA;have hi':=hi.perm hσ;obtain⟨_,_,_,_,cur2,_,_,e5,_⟩:=qnR (hi'.ok _ (je ..));obtain⟨_,_,g0,_,cur,_,_,g5,_,q1,_,q3,_⟩:=qnR (hi'.ok _ (jp _ (je ..)));have hnd:=hi'.nd;have hne:g2≠g:=by
  simp only[yl,vt,Ob.blk,Value.ownBlock,vd,jx]at hnd;exact fun hh=>hnd.1 (.inl hh)
 obtain⟨i,hii,hin⟩:=jC.1 hE.size;have hk:cur.size≠0:=by
  rw[q3];have:=j6 (show 0<c by omega) g0;omega
 have hfz:∀j,w.frozen? ⟨g2,j,none⟩=false:=fun j=>by simp[World.frozen?,e5]
 have hov:=Lib.run_overlaps_apart (P:=P) w t tr e hE.1 s (fun w=>by simp[sizeOf,typeInfo,hii,hin]) ⟨g2,0,none⟩ ⟨g,lo*s,none⟩ n2 c2 m c1 hne e e cur2.size cur.size (by simp[World.shape?,e5]) (by simp[World.shape?,g5]) hk (hfz _) (hfz _);have hr:(execOp a.eval o).run P w= .ok (.value (.bool false)) w:=by
  unfold execOp;rw[ho];simp only[resolve,Act.eval,Deferred.ofValue,Sem.run_bind,Sem.run_pure,Result.andThen_ok,invoke];have:=run_callFunc_extern hf hname hb hn he #[a.eval x,a.eval y] w;rw[h1,h2,hov]at this;simpa[h1,h2]using this
 unfold Oper.wp;rw[hr];exact⟨_,.bool false,σ,p,rfl,⟨rfl,rfl⟩,by simp only[Rep],hi,zE.refl p w⟩
end
theorem qzx{P:Program}{f:FuncId}{fn:Func}{K:Ctx}{R:D→St→Prop}{k:List Item}{env:Env}{σ:St}{m:Md}(t:Nat){g n c:Nat}(e:lk env t=some (.vec (hdS g n c) n))(h:n≤c→ze m P f fn K R k env σ):ze m P f fn K R k env σ:=fun p a w hi hr b hd=>h (by
 have d:=hr t _ e;simp only[Rep]at d;obtain⟨_,A,c',j,l,_⟩:=d;injection j with _ _ q
 omega) p a w hi hr b hd
theorem qtZ{α β:Type}{f:α→β}(L:List α)(b:α)(z:β)(i:Nat)(hi:i≤L.length):List.take (i+1) (List.take i (List.take i (L.map f)++List.replicate (L.length+1-i) z)++[f b]++List.drop (i+[f b].length) (List.take i (L.map f)++List.replicate (L.length+1-i) z))++List.drop i (List.take (L.map f).length (L.map f))++List.drop (i+1+(List.drop i (List.take (L.map f).length (L.map f))).length) (List.take i (List.take i (L.map f)++List.replicate (L.length+1-i) z)++[f b]++List.drop (i+[f b].length) (List.take i (L.map f)++List.replicate (L.length+1-i) z))=(L.take i++b::L.drop i).map f:=by
 have a:(List.take i (L.map f)).length=i:=by simp;omega
 have c:List.take i (List.take i (L.map f)++List.replicate (L.length+1-i) z)=List.take i (L.map f):=vE a;rw[c,vg (jf _)];have d:List.take (i+1) (List.take i (L.map f)++[f b]++List.drop (i+[f b].length) (List.take i (L.map f)++List.replicate (L.length+1-i) z))=List.take i (L.map f)++[f b]:=vE oe;have e:List.drop (i+1+(List.drop i (L.map f)).length) (List.take i (L.map f)++[f b]++List.drop (i+[f b].length) (List.take i (L.map f)++List.replicate (L.length+1-i) z))=[]:=vo (by simp only[ja,jA,j4,jh,vz,jg,ji];omega);rw[d,e,jv,jJ,jm,vZ,JA,jo];rfl
theorem qsi{α β:Type}{f:α→β}(L:List α)(b:α)(i:Nat)(hi:i<L.length):List.take i (List.take (i+1) (L.map f)++List.drop i (L.map f))++[f b]++List.drop (i+[f b].length) (List.take (i+1) (L.map f)++List.drop i (L.map f))=(L.take i++b::L.drop i).map f:=by
 have a:(List.take (i+1) (L.map f)).length=i+1:=by simp;omega
 have c:List.drop (i+[f b].length) (List.take (i+1) (L.map f)++List.drop i (L.map f))=List.drop i (L.map f):=List.drop_left' a;rw[c,Jn oa,Jo,vu oa,jJ,jm,vZ,JA,jo];rfl
theorem y7:ElT prog 34 102 5 64:=.of underlying34 ob od
theorem asB(l:List (Int×T)):zx 5 (l.map zw):=zaQ qfp
theorem qo0:zf prog 284 [.lst []] (.full []):=by
 refine qam [(0,.lst [])] func284 rfl rfl fun K hK=>(qx (gr [.d] (rc rfl (qz (qx (qx (gr [.d,.w] (rf rfl (ew rfl (qod rfl y7 rfl (asl rfl) (zx.nil _)) ?_)))))))))
 rintro _ _ ⟨bb,rfl,hb,rfl⟩;refine qz ?_;refine qbB 4 rfl (fun a=>?_) (fun a=>?_);refine qS rfl ?_;refine qx (gr [.d] (rc rfl (qz (qbN func284 _ (.cons (zd rfl (Wk.refl _)) .nil) ?_))));rfl;refine qL rfl ?_;refine qaC (qx (gr [.d,.d,.d,.d] (rd rfl (qrU rfl y7 rfl) (rf rfl (rd rfl (qw2 rfl y7 rfl rfl (asl rfl)) (rc rfl (qz (qbN func284 _ (.cons (zd rfl (Wk.refl _)) .nil) ?_))))))));rfl
theorem qk9(L:List (Int×T))(hl:0<L.length)(b:L.length<1000000000):Spec prog 284 [.lst (L.map zw)] [] fun d σ=>∃g c,d= .vec (hdS g L.length c) L.length∧σ=[.vec (hdS g L.length c) (L.map zw) 102 5]:=by
 refine qam [(0,.lst (L.map zw))] func284 rfl rfl fun K hK=>(qx (gr [.d] (rc rfl (qz (qx (qx (gr [.d,.w] (rf rfl (ew rfl (qod rfl y7 rfl (asl rfl) (asB L)) ?_)))))))))
 rintro _ _ ⟨bb,rfl,hb,rfl⟩;refine qz ?_;have hb:bb=false:=by
  cases bb with
  |false=>rfl
  |true=>
   have a:=congrArg List.length (hb rfl);rw[jh]at a;simp only[ji]at a;omega
 refine qa7 4 false rfl hb (qL rfl (qaC (qx (gr [.d,.d,.w,.d] (rd rfl (qrU rfl y7 rfl) (rf rfl (ew rfl (qrj rfl y7 rfl rfl (asl rfl) (asB L) oe oe oe) ?_)))))));rintro _ _ ⟨g,c,rfl,rfl⟩;refine rc rfl (qz ?_);rw[jh];refine qbN func284 _ (.cons (zd rfl (Wk.refl _)) .nil) ?_;exact⟨g,c,rfl,rfl⟩
theorem qn3(b:Int×T)(a c:Nat):Spec prog 360 [.full [],.int .i64 0,.vec (hdS a 1 c) 1] [.vec (hdS a 1 c) [zw b] 102 5] fun d σ=>d= .lst [zw b]∧σ=[]:=by
 refine qam [(0,.full []),(1,.int .i64 0),(2,.vec (hdS a 1 c) 1)] func360 rfl rfl fun K hK=>(qx (gr [.d] (rc rfl (qz (qx (gr [.d,.d,.d] (rf rfl (rf rfl (rd rfl (qsS 0 0 rfl y7 rfl (asl rfl) ⟨_,_,rfl,rfl⟩ rfl oa og (zx.nil _)) (qz (qx (gr [.d,.d,.d] (rf rfl ?_)))))))))))))
 refine rd rfl (qnw rfl underlying34 rfl) (rc rfl (qz (qx (qx (gr [.d,.d] (rf rfl (rd rfl (qcs rfl rfl rfl rfl) (qz (qa7 16 false rfl rfl (qL rfl (qaC (qx (gr [.d,.d,.d] ?_)))))))))))));refine rf rfl (rd rfl (qx6 rfl y7 rfl (asl rfl)) (rc rfl (qz (qx (qx (gr [.d,.d,.d] (rf rfl (rf rfl (rd rfl (qcs rfl rfl rfl rfl) (qz (qa7 22 true rfl rfl (qS rfl (qaX 2 rfl (pf0 _) ?_)))))))))))));refine qx (gr [.d,.d,.d,.d] (rf rfl (rf rfl (rd rfl (qnQ (f:=zw) (r:=[b]) [] [b] rfl y7 rfl rfl (asl rfl) qfp (if_pos ⟨by simp,by simp⟩)) (rc rfl (qz (qbN func360 _ (.cons (zd rfl (Wk.refl _)) .nil) ?_)))))));exact⟨rfl,rfl⟩
theorem qjZ(L:List (Int×T))(b:Int×T)(i:Nat)(hi:i≤L.length)(hl:0<L.length)(q:L.length<1000000000)(g c j l:Nat):Spec prog 360 [.vec (hdS g L.length c) L.length,.int .i64 (i:Int),.vec (hdS j 1 l) 1] [.vec (hdS g L.length c) (L.map zw) 102 5,.vec (hdS j 1 l) [zw b] 102 5] fun d σ=>d= .lst ((L.take i++b::L.drop i).map zw)∧σ=[]:=by
 have u:(L.map zw).length=L.length:=jh _;refine qam [(0,.vec (hdS g L.length c) L.length),(1,.int .i64 (i:Int)),(2,.vec (hdS j 1 l) 1)] func360 rfl rfl fun K hK=>(qx (gr [.d] (rc rfl (qz (qx (gr [.d,.d,.d] (rf rfl (rf rfl (rd rfl (qfJ rfl y7 rfl rfl hi) (qz (qx (gr [.d,.d,.d] (rf rfl ?_)))))))))))))
 refine rd rfl (qnw rfl underlying34 rfl) (rc rfl (qz (qx (qx (gr [.d,.d] (rf rfl (rd rfl (qcs rfl rfl rfl rfl) (qz (qa7 16 false rfl rfl (qL rfl (qaC (qx (gr [.d,.d,.d] ?_)))))))))))));refine rf rfl (rd rfl (qnw rfl underlying34 rfl) (rc rfl (qz (qx (qx (gr [.d,.d,.d] (rf rfl (rf rfl (rd rfl (qcs rfl rfl rfl rfl) (qz ?_))))))))));refine qbB 22 rfl (fun a=>?_) (fun a=>?_)
 · have n:(i:Int)=(L.length:Int):=by simpa using a
   have f:i=L.length:=by omega
   refine qS rfl (qaX 2 rfl (List.Perm.swap _ _ _) (qx (gr [.d,.d,.w,.d] (rf rfl (rf rfl (ew rfl (qqz (m:=[zw b]) rfl y7 rfl rfl (asl rfl) (pf0 _) (asB [b]) oe oe) ?_))))));rintro _ _ ⟨u2,rfl,rfl⟩;refine rc rfl (qz (qaX 6 rfl (pf0 _) (qbN func360 _ (.cons (zd rfl (Wk.refl _)) .nil) ?_)));refine⟨?_,rfl⟩;rw[f,jF,List.drop_length,jJ];rfl
 · have f:i<L.length:=by
    have:¬(i:Int)=(L.length:Int):=by simpa using a
    omega
   refine qL rfl (qaC (qx (qx (gr [.d,.d,.d,.d,.d,.d] (rf rfl (rf rfl (rd rfl (y4 (r:=((L.length+1:Nat):Int)) rfl rfl rfl (by simp[iar]) oa) (rf rfl (rd rfl (qzD rfl underlying34 rfl) (rd rfl (qcs rfl rfl rfl rfl) (qz ?_)))))))))));refine qbB 31 rfl (fun e=>?_) (fun e=>?_)
   · have p:c<L.length+1:=by
      have:((L.length+1:Nat):Int)>(c:Int):=by simpa using e
      omega
     refine qS rfl (qzx 0 rfl fun v=>(qx (gr [.d,.d,.d,.d,.d,.d,.d,.d,.w,.d] (rf rfl (rf rfl (rd rfl (qqs rfl y7 rfl rfl oa) (rf rfl (rf rfl (rd rfl (y4 (r:=((L.length+1:Nat):Int)) rfl rfl rfl (by simp[iar]) oa) (rf rfl (rd rfl (y4 (r:=((L.length+1-i:Nat):Int)) rfl rfl rfl (by simp[iar];omega) oa) (ew rfl (quc (lo:=i) (m:=L.length+1-i) rfl y7 (ZvI.h) underlying3 rfl rfl (pf0 _) oa oa oa oa oa) ?_))))))))))));rintro _ _ ⟨x,z,rfl,rfl⟩;refine rc rfl (qz (qaX 2 rfl (zN _ _ _) (qaX 0 rfl (List.Perm.swap _ _ _) ?_)));have A:i+(L.length+1-i)=L.length+1:=by omega
     refine qx (gr [.d,.d,.d,.d,.w] (rf rfl (rf rfl (rd rfl (qfJ rfl y7 rfl rfl oa) (rf rfl (ew rfl (qjN (l2:=[zw b]) [] rfl y7 rfl rfl (asl rfl) (pf0 _) oe oe og (asB [b])) ?_))))));rintro _ _ ⟨rfl,rfl⟩;refine qz (qx (ga [(0,.d),(1,.d),(2,.d),(3,.d),(4,.d),(5,.d),(6,.d),(7,.d),(8,.w)] (rf rfl (rf rfl (rf rfl (rd rfl (y4 (r:=((i+1:Nat):Int)) rfl rfl rfl (by simp[iar]) oa) (rd rfl (qfJ rfl y7 rfl rfl oa) (rf rfl (rf rfl (rd rfl (qsS i (L.map zw).length rfl y7 rfl (asl rfl) ⟨_,_,rfl,rfl⟩ rfl oe oa (asB L)) (ew rfl (qjN [] rfl y7 rfl rfl (asl rfl) (pf0 _) oe oe oe (((asB L).take _).drop _)) ?_)))))))))));rintro _ _ ⟨rfl,rfl⟩;refine qz (qx (gr [.d,.d] (rf rfl (rc rfl (qz (qaX 6 rfl (pf0 _) (qbN func360 _ (.cons (zd rfl (Wk.refl _)) .nil) ?_)))))));refine⟨?_,rfl⟩;exact congrArg D.lst (qtZ _ _ _ _ oa)
   · have p:L.length+1≤c:=by
      have:¬((L.length+1:Nat):Int)>(c:Int):=by simpa using e
      omega
     refine qL rfl (qaC (qx (gr [.d,.d,.d,.d,.d,.d] (rf rfl (rf rfl (rf rfl (rd rfl (y4 (r:=((L.length+1:Nat):Int)) rfl rfl rfl (by simp[iar]) oa) (rd rfl (qqs rfl y7 rfl rfl p) (rc rfl (qz (qx (qx (gr [.d,.d,.d,.d,.d,.d,.r,.d] ?_)))))))))))));refine rf rfl (rf rfl (rf rfl (rf rfl (rd rfl (y4 (r:=((i+1:Nat):Int)) rfl rfl rfl (by simp[iar]) oa) (rd rfl (qfJ rfl y7 rfl rfl oa) (r_r rfl rfl rfl (qxo rfl func386 ob ob ob (t:=34) (tr:=4) ob y7 rfl rfl (List.Perm.swap _ _ _) oa oe) (rd rfl (ql8 rfl rfl) (qz (qS rfl (qx (ga [(0,.d),(1,.d),(2,.d),(3,.d),(4,.d),(5,.d),(6,.d),(7,.d),(8,.w)] (rf rfl (rf rfl ?_)))))))))))));refine rf rfl (rd rfl (y4 (r:=((i+1:Nat):Int)) rfl rfl rfl (by simp[iar]) oa) (rd rfl (qfJ rfl y7 rfl rfl oa) (rf rfl (rf rfl (rd rfl (qfJ rfl y7 rfl rfl oa) (ew rfl (quu (lo:=i) (m1:=L.length+1-(i+1)) [_] rfl y7 rfl rfl rfl oa (pf0 _) oe oa oe) ?_))))));rintro _ _ ⟨rfl,rfl⟩;refine qz (qaX 2 rfl (List.Perm.swap _ _ _) (qx (gr [.d,.d,.d,.d,.w] (rf rfl (rf rfl (rd rfl (qfJ rfl y7 rfl rfl oa) (rf rfl (ew rfl (qjN (l2:=[zw b]) [] rfl y7 rfl rfl (asl rfl) (pf0 _) oe oe og (asB [b])) ?_))))))));rintro _ _ ⟨rfl,rfl⟩;refine qz (qx (gr [.d,.d] (rf rfl (rc rfl (qz (qaX 6 rfl (pf0 _) (qbN func360 _ (.cons (zd rfl (Wk.refl _)) .nil) ?_)))))));refine⟨?_,rfl⟩;exact congrArg D.lst (qsi _ _ _ oa)
theorem y8:ElT prog 36 108 2 32:=.of underlying36 ob od
theorem asF(l:List (qu)):zx 2 (l.map qp):=zaQ qar
theorem qvg:zf prog 262 [.lst []] (.full []):=by
 refine qam [(0,.lst [])] func262 rfl rfl fun K hK=>(qx (gr [.d] (rc rfl (qz (qx (qx (gr [.d,.w] (rf rfl (ew rfl (qod rfl y8 rfl (asl rfl) (zx.nil _)) ?_)))))))))
 rintro _ _ ⟨bb,rfl,hb,rfl⟩;refine qz ?_;refine qbB 4 rfl (fun a=>?_) (fun a=>?_);refine qS rfl ?_;refine qx (gr [.d] (rc rfl (qz (qbN func262 _ (.cons (zd rfl (Wk.refl _)) .nil) ?_))));rfl;refine qL rfl ?_;refine qaC (qx (gr [.d,.d,.d,.d] (rd rfl (qrU rfl y8 rfl) (rf rfl (rd rfl (qw2 rfl y8 rfl rfl (asl rfl)) (rc rfl (qz (qbN func262 _ (.cons (zd rfl (Wk.refl _)) .nil) ?_))))))));rfl
theorem qsm(L:List (qu))(hl:0<L.length)(b:L.length<1000000000):Spec prog 262 [.lst (L.map qp)] [] fun d σ=>∃g c,d= .vec (hdS g L.length c) L.length∧σ=[.vec (hdS g L.length c) (L.map qp) 108 2]:=by
 refine qam [(0,.lst (L.map qp))] func262 rfl rfl fun K hK=>(qx (gr [.d] (rc rfl (qz (qx (qx (gr [.d,.w] (rf rfl (ew rfl (qod rfl y8 rfl (asl rfl) (asF L)) ?_)))))))))
 rintro _ _ ⟨bb,rfl,hb,rfl⟩;refine qz ?_;have hb:bb=false:=by
  cases bb with
  |false=>rfl
  |true=>
   have a:=congrArg List.length (hb rfl);rw[jh]at a;simp only[ji]at a;omega
 refine qa7 4 false rfl hb (qL rfl (qaC (qx (gr [.d,.d,.w,.d] (rd rfl (qrU rfl y8 rfl) (rf rfl (ew rfl (qrj rfl y8 rfl rfl (asl rfl) (asF L) oe oe oe) ?_)))))));rintro _ _ ⟨g,c,rfl,rfl⟩;refine rc rfl (qz ?_);rw[jh];refine qbN func262 _ (.cons (zd rfl (Wk.refl _)) .nil) ?_;exact⟨g,c,rfl,rfl⟩
theorem qsI(b:qu)(a c:Nat):Spec prog 261 [.full [],.int .i64 0,.vec (hdS a 1 c) 1] [.vec (hdS a 1 c) [qp b] 108 2] fun d σ=>d= .lst [qp b]∧σ=[]:=by
 refine qam [(0,.full []),(1,.int .i64 0),(2,.vec (hdS a 1 c) 1)] func261 rfl rfl fun K hK=>(qx (gr [.d] (rc rfl (qz (qx (gr [.d,.d,.d] (rf rfl (rf rfl (rd rfl (qsS 0 0 rfl y8 rfl (asl rfl) ⟨_,_,rfl,rfl⟩ rfl oa og (zx.nil _)) (qz (qx (gr [.d,.d,.d] (rf rfl ?_)))))))))))))
 refine rd rfl (qnw rfl underlying36 rfl) (rc rfl (qz (qx (qx (gr [.d,.d] (rf rfl (rd rfl (qcs rfl rfl rfl rfl) (qz (qa7 16 false rfl rfl (qL rfl (qaC (qx (gr [.d,.d,.d] ?_)))))))))))));refine rf rfl (rd rfl (qx6 rfl y8 rfl (asl rfl)) (rc rfl (qz (qx (qx (gr [.d,.d,.d] (rf rfl (rf rfl (rd rfl (qcs rfl rfl rfl rfl) (qz (qa7 22 true rfl rfl (qS rfl (qaX 2 rfl (pf0 _) ?_)))))))))))));refine qx (gr [.d,.d,.d,.d] (rf rfl (rf rfl (rd rfl (qnQ (f:=qp) (r:=[b]) [] [b] rfl y8 rfl rfl (asl rfl) qar (if_pos ⟨by simp,by simp⟩)) (rc rfl (qz (qbN func261 _ (.cons (zd rfl (Wk.refl _)) .nil) ?_)))))));exact⟨rfl,rfl⟩
theorem qpf(L:List (qu))(b:qu)(i:Nat)(hi:i≤L.length)(hl:0<L.length)(q:L.length<1000000000)(g c j l:Nat):Spec prog 261 [.vec (hdS g L.length c) L.length,.int .i64 (i:Int),.vec (hdS j 1 l) 1] [.vec (hdS g L.length c) (L.map qp) 108 2,.vec (hdS j 1 l) [qp b] 108 2] fun d σ=>d= .lst ((L.take i++b::L.drop i).map qp)∧σ=[]:=by
 have u:(L.map qp).length=L.length:=jh _;refine qam [(0,.vec (hdS g L.length c) L.length),(1,.int .i64 (i:Int)),(2,.vec (hdS j 1 l) 1)] func261 rfl rfl fun K hK=>(qx (gr [.d] (rc rfl (qz (qx (gr [.d,.d,.d] (rf rfl (rf rfl (rd rfl (qfJ rfl y8 rfl rfl hi) (qz (qx (gr [.d,.d,.d] (rf rfl ?_)))))))))))))
 refine rd rfl (qnw rfl underlying36 rfl) (rc rfl (qz (qx (qx (gr [.d,.d] (rf rfl (rd rfl (qcs rfl rfl rfl rfl) (qz (qa7 16 false rfl rfl (qL rfl (qaC (qx (gr [.d,.d,.d] ?_)))))))))))));refine rf rfl (rd rfl (qnw rfl underlying36 rfl) (rc rfl (qz (qx (qx (gr [.d,.d,.d] (rf rfl (rf rfl (rd rfl (qcs rfl rfl rfl rfl) (qz ?_))))))))));refine qbB 22 rfl (fun a=>?_) (fun a=>?_)
 · have n:(i:Int)=(L.length:Int):=by simpa using a
   have f:i=L.length:=by omega
   refine qS rfl (qaX 2 rfl (List.Perm.swap _ _ _) (qx (gr [.d,.d,.w,.d] (rf rfl (rf rfl (ew rfl (qqz (m:=[qp b]) rfl y8 rfl rfl (asl rfl) (pf0 _) (asF [b]) oe oe) ?_))))));rintro _ _ ⟨u2,rfl,rfl⟩;refine rc rfl (qz (qaX 6 rfl (pf0 _) (qbN func261 _ (.cons (zd rfl (Wk.refl _)) .nil) ?_)));refine⟨?_,rfl⟩;rw[f,jF,List.drop_length,jJ];rfl
 · have f:i<L.length:=by
    have:¬(i:Int)=(L.length:Int):=by simpa using a
    omega
   refine qL rfl (qaC (qx (qx (gr [.d,.d,.d,.d,.d,.d] (rf rfl (rf rfl (rd rfl (y4 (r:=((L.length+1:Nat):Int)) rfl rfl rfl (by simp[iar]) oa) (rf rfl (rd rfl (qzD rfl underlying36 rfl) (rd rfl (qcs rfl rfl rfl rfl) (qz ?_)))))))))));refine qbB 31 rfl (fun e=>?_) (fun e=>?_)
   · have p:c<L.length+1:=by
      have:((L.length+1:Nat):Int)>(c:Int):=by simpa using e
      omega
     refine qS rfl (qzx 0 rfl fun v=>(qx (gr [.d,.d,.d,.d,.d,.d,.d,.d,.w,.d] (rf rfl (rf rfl (rd rfl (qqs rfl y8 rfl rfl oa) (rf rfl (rf rfl (rd rfl (y4 (r:=((L.length+1:Nat):Int)) rfl rfl rfl (by simp[iar]) oa) (rf rfl (rd rfl (y4 (r:=((L.length+1-i:Nat):Int)) rfl rfl rfl (by simp[iar];omega) oa) (ew rfl (quc (lo:=i) (m:=L.length+1-i) rfl y8 (ZvI.h) underlying3 rfl rfl (pf0 _) oa oa oa oa oa) ?_))))))))))));rintro _ _ ⟨x,z,rfl,rfl⟩;refine rc rfl (qz (qaX 2 rfl (zN _ _ _) (qaX 0 rfl (List.Perm.swap _ _ _) ?_)));have A:i+(L.length+1-i)=L.length+1:=by omega
     refine qx (gr [.d,.d,.d,.d,.w] (rf rfl (rf rfl (rd rfl (qfJ rfl y8 rfl rfl oa) (rf rfl (ew rfl (qjN (l2:=[qp b]) [] rfl y8 rfl rfl (asl rfl) (pf0 _) oe oe og (asF [b])) ?_))))));rintro _ _ ⟨rfl,rfl⟩;refine qz (qx (ga [(0,.d),(1,.d),(2,.d),(3,.d),(4,.d),(5,.d),(6,.d),(7,.d),(8,.w)] (rf rfl (rf rfl (rf rfl (rd rfl (y4 (r:=((i+1:Nat):Int)) rfl rfl rfl (by simp[iar]) oa) (rd rfl (qfJ rfl y8 rfl rfl oa) (rf rfl (rf rfl (rd rfl (qsS i (L.map qp).length rfl y8 rfl (asl rfl) ⟨_,_,rfl,rfl⟩ rfl oe oa (asF L)) (ew rfl (qjN [] rfl y8 rfl rfl (asl rfl) (pf0 _) oe oe oe (((asF L).take _).drop _)) ?_)))))))))));rintro _ _ ⟨rfl,rfl⟩;refine qz (qx (gr [.d,.d] (rf rfl (rc rfl (qz (qaX 6 rfl (pf0 _) (qbN func261 _ (.cons (zd rfl (Wk.refl _)) .nil) ?_)))))));refine⟨?_,rfl⟩;exact congrArg D.lst (qtZ _ _ _ _ oa)
   · have p:L.length+1≤c:=by
      have:¬((L.length+1:Nat):Int)>(c:Int):=by simpa using e
      omega
     refine qL rfl (qaC (qx (gr [.d,.d,.d,.d,.d,.d] (rf rfl (rf rfl (rf rfl (rd rfl (y4 (r:=((L.length+1:Nat):Int)) rfl rfl rfl (by simp[iar]) oa) (rd rfl (qqs rfl y8 rfl rfl p) (rc rfl (qz (qx (qx (gr [.d,.d,.d,.d,.d,.d,.r,.d] ?_)))))))))))));refine rf rfl (rf rfl (rf rfl (rf rfl (rd rfl (y4 (r:=((i+1:Nat):Int)) rfl rfl rfl (by simp[iar]) oa) (rd rfl (qfJ rfl y8 rfl rfl oa) (r_r rfl rfl rfl (qxo rfl func298 ob ob ob (t:=36) (tr:=4) ob y8 rfl rfl (List.Perm.swap _ _ _) oa oe) (rd rfl (ql8 rfl rfl) (qz (qS rfl (qx (ga [(0,.d),(1,.d),(2,.d),(3,.d),(4,.d),(5,.d),(6,.d),(7,.d),(8,.w)] (rf rfl (rf rfl ?_)))))))))))));refine rf rfl (rd rfl (y4 (r:=((i+1:Nat):Int)) rfl rfl rfl (by simp[iar]) oa) (rd rfl (qfJ rfl y8 rfl rfl oa) (rf rfl (rf rfl (rd rfl (qfJ rfl y8 rfl rfl oa) (ew rfl (quu (lo:=i) (m1:=L.length+1-(i+1)) [_] rfl y8 rfl rfl rfl oa (pf0 _) oe oa oe) ?_))))));rintro _ _ ⟨rfl,rfl⟩;refine qz (qaX 2 rfl (List.Perm.swap _ _ _) (qx (gr [.d,.d,.d,.d,.w] (rf rfl (rf rfl (rd rfl (qfJ rfl y8 rfl rfl oa) (rf rfl (ew rfl (qjN (l2:=[qp b]) [] rfl y8 rfl rfl (asl rfl) (pf0 _) oe oe og (asF [b])) ?_))))))));rintro _ _ ⟨rfl,rfl⟩;refine qz (qx (gr [.d,.d] (rf rfl (rc rfl (qz (qaX 6 rfl (pf0 _) (qbN func261 _ (.cons (zd rfl (Wk.refl _)) .nil) ?_)))))));refine⟨?_,rfl⟩;exact congrArg D.lst (qsi _ _ _ oa)
def Yl{ρ:Type}(o:Option ρ)(Q:ρ→Prop):Prop:=∃r,o=some r∧Q r
section
variable{α β ρ:Type}{Q:ρ→Prop}
theorem Yl.ret{r:ρ}(h:Q r):Yl (some r) Q:=⟨r,rfl,h⟩
theorem Yl.to{o:Option ρ}{Q':ρ→Prop}(h:Yl o Q')(k:∀r,Q' r→Q r):Yl o Q:=by
 obtain⟨r,a,b⟩:=h;exact⟨r,a,k r b⟩
theorem Yl.bind{o:Option α}{f:α→Option ρ}(h:Yl o fun a=>Yl (f a) Q):Yl (o.bind f) Q:=by
 obtain⟨a,rfl,h⟩:=h;exact h
theorem Yl.ite{b:Bool}{x y:Option ρ}(a:b=true→Yl x Q)(c:b=false→Yl y Q):Yl (bif b then x else y) Q:=by
 cases b with
 |true=>exact a rfl
 |false=>exact c rfl
theorem Yl.bindX{o:Option (Int⊕α)}{f:α→Option (Int⊕β)}{Q:Int⊕β→Prop}(h:Yl o fun x=>match x with|.inl c=>Q (.inl c)|.inr a=>Yl (f a) Q):Yl (bindX o f) Q:=by
 obtain⟨x,rfl,h⟩:=h;cases x with
 |inl c=>exact⟨_,rfl,h⟩
 |inr a=>exact h
theorem Yl.jn{body:(β→Option ρ)→Option ρ}{k:β→Option ρ}(J:β→Prop)(h:∀kk:β→Option ρ,(∀s,J s→Yl (kk s) Q)→Yl (body kk) Q)(a:∀s,J s→Yl (k s) Q):Yl (jn body k) Q:=by
 rw[qqI];exact h k a
theorem Yl.forL{body:Nat→α→β→(β→Option ρ)→Option ρ}{k:β→Option ρ}(I:Nat→β→Prop):∀(l:List α)(i:Nat)(s:β),I i s→(∀(j:Nat)(q:α)(s:β)(a:β→Option ρ),l[j]? =some q→I (i+j) s→(∀b,I (i+j+1) b→Yl (a b) Q)→Yl (body (i+j) q s a) Q)→(∀s,I (i+l.length) s→Yl (k s) Q)→Yl (forL body k i l s) Q
 |[],i,s,c,_,d=>d s c
 |x::l,i,s,c,hb,d=>by
  rw[Go.Proofs.YtgcegilpajfdhaaGreat.forL];refine hb 0 x s _ rfl c fun b g=>?_;refine Yl.forL I l (i+1) b g (fun j q s a h f hn=>?_) fun s hs=>d s (by rwa [jg,show i+(l.length+1)=i+1+l.length by omega]);have e:i+(j+1)=i+1+j:=by omega
  rw[←e]at f hn⊢;exact hb (j+1) q s a (by simpa using h) f hn
theorem Yl.forC{body:Int→β→(β→Option ρ)→Option ρ}{k:β→Option ρ}(I:Int→β→Prop):∀(n:Nat)(i:Int)(s:β),I i s→(∀(j:Nat)(s:β)(b:β→Option ρ),j<n→I (i+j) s→(∀c,I (i+j+1) c→Yl (b c) Q)→Yl (body (i+j) s b) Q)→(∀s,I (i+n) s→Yl (k s) Q)→Yl (forC body k n i s) Q
 |0,i,s,d,_,f=>f s (by simpa using d)
 |n+1,i,s,d,hb,f=>by
  rw[Go.Proofs.YtgcegilpajfdhaaGreat.forC];have a:=hb 0 s (Go.Proofs.YtgcegilpajfdhaaGreat.forC body k n (i+1)) oa;simp only[Int.natCast_zero,Int.add_zero]at a;refine a d fun c h=>?_;refine Yl.forC I n (i+1) c h (fun j s b l g hn=>?_) fun s hs=>f s (by rwa [show i+((n+1:Nat):Int)=i+1+n by omega]);have e:i+((j+1:Nat):Int)=i+1+j:=by omega
  rw[←e]at g hn⊢;exact hb (j+1) s b oa g hn
theorem Yl.forD{body:Nat→β→(β→Option ρ)→Option ρ}{k:β→Option ρ}(I:Nat→β→Prop):∀(n:Nat)(s:β),I n s→(∀(j:Nat)(s:β)(a:β→Option ρ),j<n→I (j+1) s→(∀b,I j b→Yl (a b) Q)→Yl (body j s a) Q)→(∀s,I 0 s→Yl (k s) Q)→Yl (forD body k n s) Q
 |0,s,c,_,d=>d s c
 |n+1,s,c,hb,d=>by
  rw[Go.Proofs.YtgcegilpajfdhaaGreat.forD];refine hb n s _ oa c fun b e=>?_;exact Yl.forD I n b e (fun j s a f=>hb j s a oa) d
theorem Yl.forF{body:β→(β→Option ρ)→Option ρ}(I:β→Prop)(μ:β→Nat)(hb:∀(s:β)(b:β→Option ρ),I s→(∀a,I a→μ a<μ s→Yl (b a) Q)→Yl (body s b) Q):∀(n:Nat)(s:β),I s→μ s<n→Yl (forF body n s) Q
 |0,s,_,h=>absurd h oa
 |n+1,s,c,h=>by
  rw[Go.Proofs.YtgcegilpajfdhaaGreat.forF];exact hb s _ c fun a d e=>Yl.forF I μ hb n a d oa
theorem Yl.appO{b:Nat}{l m:List α}{Q:List α→Prop}(h:(l.length+m.length)*b≤140737488355328∧l.length+m.length≤9223372036854775807)(k:Q (l++m)):Yl (appO b l m) Q:=⟨_,qeL h.1 h.2,k⟩
theorem Yl.subO{l:List α}{lo hi:Int}{Q:List α→Prop}(h:0≤lo∧lo≤hi∧hi≤l.length)(k:Q ((l.take hi.toNat).drop lo.toNat)):Yl (subO l lo hi) Q:=by
 refine⟨_,?_,k⟩;unfold Go.Proofs.YtgcegilpajfdhaaGreat.subO;rw[if_pos h]
theorem Yl.mputO[DecidableEq α]{l:List (α×β)}{x:α}{d:β}{Q:List (α×β)→Prop}(h:l.length<9223372036854775807)(k:Q (yo l x d)):Yl (mputO l x d) Q:=by
 refine⟨_,?_,k⟩;unfold Go.Proofs.YtgcegilpajfdhaaGreat.mputO;rw[if_pos h]
theorem Yl.mkA{b:Nat}{n:Int}{z:α}{Q:List α→Prop}(h:0≤n∧b*n.toNat≤281474976710656∧n.toNat≤9223372036854775807)(k:Q (List.replicate n.toNat z)):Yl (mkA b n z) Q:=by
 refine⟨_,?_,k⟩;unfold Go.Proofs.YtgcegilpajfdhaaGreat.mkA;rw[if_pos h]
end
theorem Yl.val{ρ:Type}{Q:ρ→Prop}{o:Option ρ}{v:ρ}(h:o=some v)(k:Q v):Yl o Q:=⟨v,h,k⟩
def ixF{α:Type}(g:α→Bool)(l:List α):Int:=match l.findIdx? g with
 |some i=>(i:Int)
 |none=> -1
theorem qp9{α σ ρ:Type}{body:Nat→α→σ→(σ→Option ρ)→Option ρ}{k:σ→Option ρ}{g:α→Bool}{s:σ}{A:Nat→ρ}:∀(l:List α)(i:Nat),(∀j q a,q∈l→body j q s a=bif g q then some (A j)else a s)→forL body k i l s=(match l.findIdx? g with
 |some j=>some (A (i+j))
 |none=>k s)
 |[],i,_=>rfl
 |x::l,i,h=>by
  rw[forL,h i x _ (je ..),List.findIdx?_cons];cases g x with
  |true=>rfl
  |false=>
   rw[cond_false,qp9 l (i+1) fun j q a hq=>h j q a (jp _ hq)];cases l.findIdx? g with
   |none=>rfl
   |some j=>simp only[Jf,jS,Nat.add_comm 1 j,va,if_false]
theorem qhW{α:Type}(g:α→Bool)(l:List α):decide (ixF g l≥0)=l.any g:=by
 unfold ixF;cases h:l.findIdx? g with
 |none=>
  rw[List.findIdx?_eq_none_iff]at h;have:l.any g=false:=List.any_eq_false.2 fun x a=>by simp[h x a]
  rw[this];rfl
 |some i=>
  obtain⟨hi,b,_⟩:=J4.1 h;have:l.any g=true:=vC.2 ⟨l[i],JJ hi,b⟩;rw[this];simp
theorem qf5{α:Type}{body:Nat→α→Unit→(Unit→Option Int)→Option Int}(f:α→Option Bool)(g:α→Bool)(l:List α)(b:∀q∈l,f q=some (g q))(hb:∀j q a,body j q () a=(f q).bind fun r=>bif r then some (j:Int)else a ()):forL body (fun _=>some (-1)) 0 l ()=some (ixF g l):=by
 rw[qp9 (g:=g) (A:=fun j=>(j:Int)) l 0 fun j q a hq=>by rw[hb,b q hq];rfl];unfold ixF;cases l.findIdx? g with
 |none=>rfl
 |some j=>simp
theorem qmW{α σ:Type}{s:σ}{body:Nat→α→σ→(σ→Option (Int×σ))→Option (Int×σ)}(f:α→Option (Bool×σ))(g:α→Bool)(l:List α)(b:∀q∈l,f q=some (g q,s))(hb:∀j q a,body j q s a=(f q).bind fun r=>bif r.1 then some ((j:Int),r.2)else a r.2):forL body (fun s=>some (-1,s)) 0 l s=some (ixF g l,s):=by
 rw[qp9 (g:=g) (A:=fun j=>((j:Int),s)) l 0 fun j q a hq=>by rw[hb,b q hq];rfl];unfold ixF;cases l.findIdx? g with
 |none=>rfl
 |some j=>simp
theorem qm4{α σ:Type}{s:σ}{body:Nat→α→Unit→(Unit→Option (Int×σ))→Option (Int×σ)}(f:α→Option Bool)(g:α→Bool)(l:List α)(b:∀q∈l,f q=some (g q))(hb:∀j q a,body j q () a=(f q).bind fun r=>bif r then some ((j:Int),s)else a ()):forL body (fun _=>some (-1,s)) 0 l ()=some (ixF g l,s):=by
 rw[qp9 (g:=g) (A:=fun j=>((j:Int),s)) l 0 fun j q a hq=>by rw[hb,b q hq];rfl];unfold ixF;cases l.findIdx? g with
 |none=>rfl
 |some j=>simp
theorem qeE{α:Type}(g:α→Bool)(l:List α):(!l.any fun x=>!g x)=l.all g:=by
 rw[List.all_eq_not_any_not]
def Al2{α β:Type}(R:α→β→Prop)(l:List α)(m:List β):Prop:=m.length=l.length∧∀(i:Nat)(q:α)(x:β),l[i]? =some q→m[i]? =some x→R q x
theorem Yl.fill{α β ρ:Type}{Q:ρ→Prop}{z:β}{body:Nat→α→List β→(List β→Option ρ)→Option ρ}{k:List β→Option ρ}(R:α→β→Prop)(l:List α)(f:List β)(p:f.length=l.length)(hb:∀(j:Nat)(q:α)(a:List β)(d:List β→Option ρ),l[j]? =some q→a.length=l.length→(∀x,R q x→Yl (d (a.set j x)) Q)→Yl (body j q a d) Q)(r:∀m,Al2 R l m→Yl (k m) Q):Yl (Go.Proofs.YtgcegilpajfdhaaGreat.forL body k 0 l f) Q:=by
 refine Yl.forL (I:=fun i m=>m.length=l.length∧∀(j:Nat)(q:α)(x:β),j<i→l[j]? =some q→m[j]? =some x→R q x) l 0 f ⟨p,fun j q x h=>absurd h oa⟩ (fun j q a d n e hn=>?_) fun m hm=>r m ⟨hm.1,fun i q x c b=>hm.2 i q x ?_ c b⟩;rw[jc]at e hn⊢;refine hb j q a d n e.1 fun x t=>hn _ ⟨by rw[vT];exact e.1,fun i u v hi c b=>?_⟩;rw[vA]at b;split at b
 rename_i g
 subst g;rw[n]at c;cases c;split at b
 cases b;exact t;cases b;exact e.2 i u v oa c b;have:=(jd.1 c).1;omega
def zaI(p:Nat→Bool):Nat→Nat |0=>0 |n+1=>zaI p n+bif p n then 1 else 0
theorem qqb(p:Nat→Bool):∀n,zaI p n≤n
 |0=>jf _
 |n+1=>by
  have:=qqb p n;unfold zaI;cases p n<;>simp<;>omega
theorem qjV{p q:Nat→Bool}:∀n,(∀k,k<n→p k=q k)→zaI p n=zaI q n
 |0,_=>rfl
 |n+1,h=>by
  unfold zaI;rw[qjV n fun k a=>h k oa,h n oa]
theorem qjE{p q:Nat→Bool}{b:Nat}:∀n,b<n→p b=true→q b=false→(∀k,k<n→k≠b→q k=p k)→zaI q n+1=zaI p n
 |0,h,_,_,_=>absurd h oa
 |n+1,h,c,hq,a=>by
  unfold zaI;by_cases hb:b=n;subst hb;rw[qjV b fun k h=>a k oa oa,c,hq];rfl;have:=qjE n oa c hq fun k e d=>a k oa d;rw[a n oa (fun h=>hb h.symm)];omega
def zF{α β:Type}(m:List (α×β)):List α:=m.map (·.1)
theorem qjH{β:Type}:∀{m:List (Int×β)}{x:Int},zk m x=none↔x∉zF m
 |[],x=>by simp[zF,zk]
 |(y,d)::m,x=>by
  unfold zk;by_cases h:y=x;subst h;simp[zF];have:=qjH (m:=m) (x:=x);simp only[zF]at this;simp only[h,if_false,this,zF,jm,jx,not_or];exact⟨fun a=>⟨fun e=>h e.symm,a⟩,fun a=>a.2⟩
theorem qgK{β:Type}:∀(m:List (Int×β))(x:Int)(d:β),zF (yo m x d)=if x∈zF m then zF m else zF m++[x]
 |[],x,d=>by simp[zF,yo]
 |(y,e)::m,x,d=>by
  have a:=qgK m x d;simp only[zF]at a;unfold yo;by_cases h:y=x;subst h;simp[zF];have b:x≠y:=fun e=>h e.symm;simp only[zF,h,if_false,jm,jx,b,false_or,a];by_cases c:x∈List.map (fun x=>x.fst) m<;>simp[c]
theorem qpb{β:Type}{m:List (Int×β)}(x:Int)(d:β)(h:(zF m).Nodup):(zF (yo m x d)).Nodup:=by
 rw[qgK];split
 exact h;rename_i c
 exact jT.2 ⟨h,by simp,fun a f b hb=>by simp at hb;subst hb;exact fun e=>c (e▸f)⟩
theorem qtL{β:Type}{m:List (Int×β)}{x:Int}{d:β}(h:zk m x=some d):x∈zF m:=by
 have:=@qjH β m x;rw[h]at this;simpa using this
theorem qm1{β:Type}{m:List (Int×β)}{x:Int}(h:x∈zF m):∃d,zk m x=some d:=by
 cases hm:zk m x with
 |some d=>exact⟨d,rfl⟩
 |none=>exact absurd h (qjH.1 hm)
theorem qt6{α:Type}{l:List α}{k:Nat}{q:α}(h:l[k]? =some q):getI l (k:Int)=some q:=by rw[qfo,h]
theorem qBz(a b:Int):qby a b=some (cpI a b):=by
 unfold qby qeC cpI;have h:∀x:Int,(x !=x)=false:=fun x=>by simp
 simp only[jb,h,cond_false];by_cases c:a<b;simp[c];by_cases d:a>b<;>simp[c,d]
theorem qz8(l m:List Int):qbF l m=some (zaH l m):=by
 unfold qbF;have key:∀(l':List Int)(i:Nat)(a:List Int),l.length=i+l'.length→a=m.drop i→i≤m.length→forL (β:=Unit) (fun i1 j _ d=>
  (bif(decide ((i1:Int)≥(m.length:Int)))then some 1 else
  ((getI m (i1:Int)).bind fun n=>((qby j n).bind fun h=>(bif(h !=(0:Int))then some h else(d ())))))) (fun _=>(bif(decide ((l.length:Int)<(m.length:Int)))then some (-1)else some 0)) i l' ()=some (zaH l' a):=by
  intro l';induction l' with
  |nil=>
   intro i a f b p;rw[forL];simp only[ji,vh]at f;cases a with
   |nil=>
    have:m.length≤i:=by
     have:=congrArg List.length b;rw[j4,ji]at this;omega
    have e:decide ((l.length:Int)<(m.length:Int))=false:=decide_eq_false oa;rw[e];rfl
   |cons y a=>
    have:i<m.length:=by
     have:=congrArg List.length b;rw[j4,jg]at this;omega
    have e:decide ((l.length:Int)<(m.length:Int))=true:=decide_eq_true oa;rw[e];rfl
  |cons x l' q=>
   intro i a f b p;rw[forL];cases a with
   |nil=>
    have:m.length≤i:=by
     have:=congrArg List.length b;rw[j4,ji]at this;omega
    have e:decide ((i:Int)≥(m.length:Int))=true:=decide_eq_true oa;rw[e];rfl
   |cons y a=>
    have hi:i<m.length:=by
     have:=congrArg List.length b;rw[j4,jg]at this;omega
    have e:decide ((i:Int)≥(m.length:Int))=false:=decide_eq_false oa;have hy:m[i]? =some y:=by
     have:(m.drop i)[0]? =some y:=by rw[←b];rfl
     simpa using this
    rw[e,cond_false,qt6 hy,jb,qBz,jb,zaH];by_cases c:cpI x y=0;have g:(cpI x y !=0)=false:=by simp[c]
    rw[g,cond_false,if_neg (by simp[c])];refine q (i+1) a (by simp only[jg]at f;omega) ?_ oa;rw[←List.tail_drop,←b];rfl;have g:(cpI x y !=0)=true:=by simp[c]
    rw[g,cond_true,if_pos c]
 exact key l 0 m oa rfl oa
theorem quN(a b:qu):qcf a b=some (cpF a b):=by
 unfold qcf qgt cpF;simp only[qBz,jb,forL,qz8];by_cases c:cpI a.fp b.fp=0;by_cases d:cpI (a.ff.length:Int) (b.ff.length:Int)=0;simp[c,d];have e:(cpI (a.ff.length:Int) (b.ff.length:Int) !=0)=true:=by simp[d]
 simp only[c,d,e,ne_eq,not_true_eq_false,not_false_eq_true,if_true,if_false,bne_self_eq_false,cond_false,cond_true,jb];have f:(cpI a.fp b.fp !=0)=true:=by simp[c]
 simp only[c,f,ne_eq,not_false_eq_true,if_true,cond_true,jb]
theorem qdS{a b:Int}:cpI a b=0↔a=b:=by
 unfold cpI;split
 omega;split<;>omega
theorem qeK{a b:Int}:cpI a b<0↔a<b:=by
 unfold cpI;split
 omega;split<;>omega
theorem qpe:∀{a b c:List Int},zaH a b<0→zaH b c<0→zaH a c<0
 |[],[],c,h,_=>absurd h (by simp[zaH])
 |[],_::_,[],_,h=>absurd h (by simp[zaH])
 |[],_::_,_::_,_,_=>by simp[zaH]
 |_::_,[],_,h,_=>absurd h (by simp[zaH])
 |_::_,_::_,[],_,h=>absurd h (by simp[zaH])
 |x::a,y::b,z::c,e,d=>by
  unfold zaH at e d⊢;by_cases g:cpI x y=0;rw[if_neg (by simp[g])]at e;have g:=qdS.1 g;subst g;by_cases f:cpI x z=0;rw[if_neg (by simp[f])]at d⊢;exact qpe e d;rw[if_pos f]at d⊢;exact d;rw[if_pos g]at e;have e:=qeK.1 e;by_cases f:cpI y z=0;have f:=qdS.1 f;subst f;rw[if_pos g];exact qeK.2 e;rw[if_pos f]at d;have d:=qeK.1 d;have:cpI x z<0:=qeK.2 oa;rw[if_pos oa];exact this
theorem qll{a b c:qu}(e:cpF a b<0)(d:cpF b c<0):cpF a c<0:=by
 unfold cpF at e d⊢;by_cases g:cpI a.fp b.fp=0;rw[if_neg (by simp[g])]at e;have g:=qdS.1 g;rw[g];by_cases f:cpI b.fp c.fp=0;rw[if_neg (by simp[f])]at d⊢;by_cases d1:cpI (a.ff.length:Int) (b.ff.length:Int)=0;rw[if_neg (by simp[d1])]at e;have d1:=qdS.1 d1;rw[d1];by_cases d2:cpI (b.ff.length:Int) (c.ff.length:Int)=0;rw[if_neg (by simp[d2])]at d⊢;exact qpe e d;rw[if_pos d2]at d⊢;exact d;rw[if_pos d1]at e;have e:=qeK.1 e;by_cases d2:cpI (b.ff.length:Int) (c.ff.length:Int)=0;have d2:=qdS.1 d2;rw[←d2,if_pos d1];exact qeK.2 e;rw[if_pos d2]at d;have d:=qeK.1 d;have:cpI (a.ff.length:Int) (c.ff.length:Int)<0:=qeK.2 oa;rw[if_pos oa];exact this;rw[if_pos f]at d⊢;exact d;rw[if_pos g]at e;have e:=qeK.1 e;by_cases f:cpI b.fp c.fp=0;have f:=qdS.1 f;rw[←f,if_pos g];exact qeK.2 e;rw[if_pos f]at d;have d:=qeK.1 d;have:cpI a.fp c.fp<0:=qeK.2 oa;rw[if_pos oa];exact this
structure VF(f:qu):Prop where
 r:0≤f.fp∧f.fp<40
 n:1≤f.ff.length∧f.ff.length≤4
 p:∀i∈f.ff,1≤i
 d:f.ff.Nodup
theorem qot(l:List Int)(x:Int):qK l x=some (l.contains x):=by
 unfold qK qb3;rw[qf5 (fun q=>some (x==q)) (fun q=>x==q) l (fun _ _=>rfl) fun _ _ _=>rfl];simp only[jb,qhW];congr 1
 induction l with
 |nil=>rfl
 |cons y l a=>simp only[List.any_cons,List.contains_cons,a]
theorem qxy(f:qu):Yl (qc1 f) fun b=>b=true↔VF f:=by
 unfold qc1;have no:∀{P:Prop},(P→False)→Yl (some false) fun r=>r=true↔P:=fun c=>.ret ⟨fun h=>(by cases h),fun h=>(c h).elim⟩;refine Yl.ite (fun g=>no fun s=>absurd s.r.1 (by have:=of_decide_eq_true g;omega)) fun m=>Yl.ite (fun g=>no fun s=>absurd s.r.2 (by have:=of_decide_eq_true g;omega)) fun t=>Yl.ite (fun g=>no fun s=>absurd s.n.1 (by have:=of_decide_eq_true g;omega)) fun u=>Yl.ite (fun g=>no fun s=>absurd s.n.2 (by have:=of_decide_eq_true g;omega)) fun v=>?_;have m:=of_decide_eq_false m;have t:=of_decide_eq_false t;have u:=of_decide_eq_false u;have v:=of_decide_eq_false v;refine Yl.forL (I:=fun i _=>(∀x∈f.ff.take i,1≤x)∧(f.ff.take i).Nodup) f.ff 0 () ⟨fun x c=>(by cases c),vL⟩ (fun i q _ A hi j l=>?_) fun _ j=>?_;rw[jc]at j l⊢;have hq:=List.mem_of_getElem? hi;have z:=(jd.1 hi).1;have a:f.ff.take (i+1)=f.ff.take i++[q]:=by rw[jI,hi];rfl
 refine Yl.ite (fun g=>no fun s=>absurd (s.p q hq) (by have:=of_decide_eq_true g;omega)) fun w=>?_;have w:=of_decide_eq_false w;refine Yl.bind (Yl.subO ⟨by omega,by omega,by omega⟩ (Yl.bind (Yl.val (qot _ _) ?_)));rw[jO,Je,vJ];refine Yl.ite (fun g=>no fun s=>?_) fun g=>l () ⟨fun x c=>?_,?_⟩;have hs:=s.d;rw[←j7 (i+1) f.ff,a]at hs;have:=(jT.1 (jT.1 hs).1).2.2;exact this q (by simpa using g) q (jr.2 rfl) rfl;rw[a]at c;rcases jl.1 c with c|c
 exact j.1 x c;have:x=q:=by simpa using c
 omega;rw[a];refine jT.2 ⟨j.2,by simp,fun x c y hy e=>?_⟩;have:y=q:=by simpa using hy
 subst this;subst e;rw[List.contains_iff_mem.2 c]at g;cases g;rw[jc,jF]at j;exact .ret ⟨fun _=>⟨⟨by omega,by omega⟩,⟨by omega,by omega⟩,j.1,j.2⟩,fun _=>rfl⟩
structure zcJ(l:List qu):Prop where
 n:l.length≤5000
 v:∀f∈l,VF f
 p:l.Pairwise fun f g=>cpF f g<0
theorem qkb(l:List qu):Yl (qcZ l) fun b=>b=true↔zcJ l:=by
 unfold qcZ;have no:∀{P:Prop},(P→False)→Yl (some false) fun r=>r=true↔P:=fun c=>.ret ⟨fun h=>(by cases h),fun h=>(c h).elim⟩;refine Yl.ite (fun g=>no fun s=>absurd s.n (by have:=of_decide_eq_true g;omega)) fun w=>?_;have w:=of_decide_eq_false w;refine Yl.forL (I:=fun i _=>(∀x∈l.take i,VF x)∧(l.take i).Pairwise fun f g=>cpF f g<0) l 0 () ⟨fun x c=>(by cases c),List.Pairwise.nil⟩ (fun i q _ A hi j m=>?_) fun _ j=>?_;rw[jc]at j m⊢;have hq:=List.mem_of_getElem? hi;have t:=(jd.1 hi).1;have a:l.take (i+1)=l.take i++[q]:=by rw[jI,hi];rfl
 refine Yl.bind ((qxy q).to fun b hb=>Yl.ite (fun g=>no fun s=>?_) fun g=>?_);have:=hb.2 (s.v q hq);rw[this]at g;cases g;have C:=hb.1 (by simpa using g);have cont:(∀p∈l.take i,cpF p q<0)→Yl (A ()) fun r=>r=true↔zcJ l:=fun d=>m () ⟨fun x c=>by
  rw[a]at c;rcases jl.1 c with c|c
  exact j.1 x c;have:x=q:=by simpa using c
  rwa [this],by
  rw[a];exact vO.2 ⟨j.2,JZ ..,fun p h r hr=>by rw[jr.1 hr];exact d p h⟩⟩
 refine Yl.ite (fun g=>?_) fun g=>cont ?_;have g:=of_decide_eq_true g;rw[qex oa];obtain⟨k,rfl⟩:∃k,i=k+1:=⟨i-1,by omega⟩
 have B:((k+1:Nat):Int)-1=(k:Int):=by omega
 rw[B];have u:l[k]? =some (l[k]'(by omega)):=jj oa;rw[qt6 u,jb];refine Yl.bind (Yl.val (quN _ _) (Yl.ite (fun g=>no fun s=>?_) fun g=>cont fun p d=>?_));have g:=of_decide_eq_true g;have:=JG.1 s.p k (k+1) oa t oa;have e:=(jd.1 hi).2;rw[e]at this;omega;have g:cpF (l[k]'(by omega)) q<0:=by
  have:=of_decide_eq_false g;omega
 rw[jI,u]at d;rcases jl.1 d with d|d
 have z:=j.2;rw[jI,u]at z;exact qll ((vO.1 z).2.2 p d (l[k]'(by omega)) (jr.2 rfl)) g;have:p=l[k]'(by omega):=by simpa using d
 rw[this];exact g;have g:=of_decide_eq_false g;have:i=0:=by omega
 subst this;intro p d;cases d;rw[jc,jF]at j;exact .ret ⟨fun _=>⟨by omega,j.1,j.2⟩,fun _=>rfl⟩
theorem qug{n:Int}(h:0≤n∧n<18446744073709551616):IntKind.u64.wrap n=n:=by
 simp[IntKind.wrap,IntKind.bits,IntKind.signed];omega
theorem zcm:Ty prog 108 true 2:=⟨⟨_,underlying108,rfl⟩,by kernel_rfl⟩
theorem tyBi:Ty prog 102 true 5:=⟨⟨_,underlying102,rfl⟩,by kernel_rfl⟩
theorem qCh{P:Program}{o:Oper}{ρ:Operand→Option D}{t d:TypeId}{x:Operand}{k:IntKind}{m:Nat}(c:o.op= .binOp .shr t x (.const (.int k 1)) d)(f:ρ x=some (.int .u64 (m:Int))):zi P o ρ (.int .u64 ((m/2:Nat):Int)):=qM fun p a w h=>by
 have b:=h x (by rw[c];simp[Op.operands]) _ f;simp only[Rep]at b;refine⟨.int .u64 ((m/2:Nat):Int),?_,by simp only[Rep];exact⟨trivial,qug (by have:=qv1 b.2;omega)⟩⟩;unfold execOp;rw[c];have e:Int.fdiv (m:Int) 2=((m/2:Nat):Int):=by rw[Int.fdiv_eq_ediv_of_nonneg _ od];omega
 have g:a.eval (.const (.int k 1))= .int k 1:=rfl;simp[b.1,g,binOp,eqGuard,Op.shift,IntKind.bits,e]
theorem qzU{l:List qu}{f:qu}{i:Nat}(b:∀k g,k<i→l[k]? =some g→cpF g f<0)(c:∀g,l[i]? =some g→¬cpF g f<0)(hi:i≤l.length):zar l f=i:=by
 unfold zar;induction l generalizing i with
 |nil=>simp at hi;simp[hi]
 |cons x l d=>
  cases i with
  |zero=>
   have:=c x rfl;rw[JL,decide_eq_false this];rfl
  |succ i=>
   have:=b 0 x oa rfl;rw[JL,decide_eq_true this,if_pos rfl,jg,d (i:=i) (fun k g e a=>b (k+1) g oa a) (fun g a=>c g a) (by simpa using hi)]
theorem qw7(l:List qu)(f:qu)(hs:l.Pairwise fun g h=>cpF g h<0)(hl:l.length<1000000000):zf prog 260 [.lst (l.map qp),qp f,.clo (.func 167) [] []] (.tup [.int .i64 ((zar l f:Nat):Int),.bool (zax l f)]):=by
 refine qam [(0,.lst (l.map qp)),(1,qp f),(2,.clo (.func 167) [] [])] func260 rfl rfl fun K hK=>(qx (gr [.d,.d,.d] (rd rfl (ql5 rfl rfl rfl) (rc rfl (rc rfl (qz (qx (gr [.d,.d,.d] (rf rfl (rd rfl (qfU (f:=qp) l rfl y8 rfl (asl rfl)) (rc rfl (qz (qx ?_)))))))))))))
 refine gr [.d,.d,.d] (rf rfl (rc rfl (rc rfl (qz (qx ?_)))));refine qf1 (fun env σ=>∃i:Nat,env=[(0,.lst (l.map qp)),(2,.clo (.func 167) [] []),(4,.ptr (qp f)),(8,.int .i64 ((l.length:Nat):Int)),(9,.int .i64 ((i:Nat):Int)),(10,.int .i64 ((i:Nat):Int))]∧σ=[]∧i≤l.length∧zar l f=i) ?_ (fun HK=>?_);rintro _ _ ⟨i,rfl,rfl,hi,b⟩;rw[b];by_cases hlt:i<l.length;have e:decide (((i:Nat):Int)<((l.length:Nat):Int))=true:=decide_eq_true oa;obtain⟨q,hq⟩:∃q,l[i]? =some q:=⟨_,jj hlt⟩
 have p:zax l f=(cpF q f==0):=by unfold zax;rw[b,hq]
 rw[p];refine qx (ga [(0,.d),(1,.d),(2,.d),(3,.d),(4,.d),(5,.d),(6,.d),(7,.d),(8,.d),(9,.d),(10,.d),(11,.d),(12,.d),(13,.d),(14,.d),(15,.d)] (rf rfl (rf rfl (rf rfl (rd rfl (qcs rfl rfl rfl rfl) (rf rfl ?_))))));refine qgm 39 rfl (fun c=>?_) (fun c=>?_)
 skip
 refine rf rfl (rf rfl (rf rfl (rd rfl (qgj (f:=qp) l rfl y8 rfl (asl rfl) rfl (by rw[qfo];exact hq) qar rfl) (rd rfl (qak rfl rfl (by exact zcm) (qar _)) (rd rfl (qak rfl rfl (by exact zcm) (qar _)) (rd rfl (qiQ rfl rfl CaI.h (.oc rfl (.oc rfl .nil)) rfl (qfF q f _ (quN q f))) (rd rfl (qcs rfl rfl rfl rfl) (rd rfl (qiU rfl rfl rfl) (rc rfl (rc rfl (qz (qbN func260 [_,_] (.cons (zd rfl (Wk.refl _)) (.cons (zd rfl (Wk.refl _)) .nil)) ?_))))))))))));rfl;rw[show decide (((i:Nat):Int)<((l.length:Nat):Int))=false from c]at e;cases e;have e:decide (((i:Nat):Int)<((l.length:Nat):Int))=false:=decide_eq_false oa;have p:zax l f=false:=by unfold zax;rw[b,JF oa]
 rw[p];refine qx (ga [(0,.d),(1,.d),(2,.d),(3,.d),(4,.d),(5,.d),(6,.d),(7,.d),(8,.d),(9,.d),(10,.d),(11,.d),(12,.d),(13,.d),(14,.d),(15,.d)] (rf rfl (rf rfl (rf rfl (rd rfl (qcs rfl rfl rfl rfl) (rf rfl ?_))))));refine qgm 39 rfl (fun c=>?_) (fun c=>?_);rw[show decide (((i:Nat):Int)<((l.length:Nat):Int))=true from c]at e;cases e
 skip
 refine rh rfl (rh rfl (rh rfl (rh rfl (rh rfl (rh rfl (rh rfl (rh rfl (rd rfl (qhu rfl rfl rfl) (rc rfl (rc rfl (qz (qbN func260 [_,_] (.cons (zd rfl (Wk.refl _)) (.cons (zd rfl (Wk.refl _)) .nil)) ?_))))))))))));rfl;refine qcS [(0,.lst (l.map qp)),(2,.clo (.func 167) [] []),(4,.ptr (qp f)),(8,.int .i64 ((l.length:Nat):Int)),(9,.int .i64 ((0:Nat):Int)),(10,.int .i64 ((l.length:Nat):Int))] (sc rfl (sc rfl (sc rfl (sc rfl (sc rfl (sc rfl (Sub.nil _))))))) ?_;refine qhh (fun n env σ=>∃i j:Nat,n=j-i∧i≤j∧j≤l.length∧env=[(0,.lst (l.map qp)),(2,.clo (.func 167) [] []),(4,.ptr (qp f)),(8,.int .i64 ((l.length:Nat):Int)),(9,.int .i64 ((i:Nat):Int)),(10,.int .i64 ((j:Nat):Int))]∧σ=[]∧(∀k g,k<i→l[k]? =some g→cpF g f<0)∧∀k g,j≤k→l[k]? =some g→¬cpF g f<0) l.length ⟨0,l.length,rfl,ju _,jf _,rfl,rfl,fun k g z=>by omega,fun k g z a=>by rw[JF z]at a;cases a⟩ ?_;rintro n _ _ ⟨i,j,rfl,E,A,rfl,rfl,B,C⟩ IH;refine qx (qx (gr [.d,.d,.d] (rf rfl (rf rfl (rd rfl (qcs rfl rfl rfl rfl) (qz ?_))))));by_cases hlt:i<j;have e:decide (((i:Nat):Int)<((j:Nat):Int))=true:=decide_eq_true oa;refine qa7 17 true rfl e (qS rfl (qaC (qcj ?_)));obtain⟨m,hm⟩:∃m,m=(i+j)/2:=⟨_,rfl⟩
 obtain⟨q,hq⟩:∃q,l[m]? =some q:=⟨_,jj oa⟩
 refine qx (gr [.d,.d,.d,.d,.d,.d,.d] (rf rfl (rf rfl (rd rfl (y4 (r:=((i+j:Nat):Int)) rfl rfl rfl (by simp[iar]) oa) (rd rfl (qwy rfl underlying3 underlying271 rfl) ?_)))));rw[qug oa];refine rd rfl (qCh (m:=i+j) rfl rfl) (rd rfl (qwy rfl underlying271 underlying3 rfl) ?_);rw[wrap64 oa];rw[←hm];refine rc rfl (qz (qx (ga [(0,.d),(1,.d),(2,.d),(3,.d),(4,.d),(5,.d),(6,.d),(7,.d)] (rf rfl (rf rfl (rf rfl (rd rfl (qgj (f:=qp) l rfl y8 rfl (asl rfl) rfl (by rw[qfo];exact hq) qar rfl) (rd rfl (qak rfl rfl (by exact zcm) (qar _)) (rd rfl (qak rfl rfl (by exact zcm) (qar _)) (rd rfl (qiQ rfl rfl CaI.h (.oc rfl (.oc rfl .nil)) rfl (qfF q f _ (quN q f))) (rd rfl (qcs rfl rfl rfl rfl) (qz ?_))))))))))));refine qbB 31 rfl (fun t=>?_) (fun t=>?_);have x:cpF q f<0:=of_decide_eq_true t;refine qS rfl (gr [.d,.d,.d] (rf rfl (rd rfl (y4 (r:=((m+1:Nat):Int)) rfl rfl rfl (by simp[iar]) oa) (rc rfl (qz (qau (qcS [(0,.lst (l.map qp)),(2,.clo (.func 167) [] []),(4,.ptr (qp f)),(8,.int .i64 ((l.length:Nat):Int)),(9,.int .i64 ((m+1:Nat):Int)),(10,.int .i64 ((j:Nat):Int))] (sc rfl (sc rfl (sc rfl (sc rfl (sc rfl (sc rfl (Sub.nil _))))))) ?_)))))));refine IH _ _ _ oa ⟨m+1,j,rfl,by omega,A,rfl,rfl,fun k g z a=>?_,C⟩;by_cases u:k=m;subst u;rw[hq]at a;obtain rfl:=Option.some.inj a;exact x;have v:=(jd.1 a).1;have w:=(jd.1 hq).1;have:=JG.1 hs k m v w oa;rw[(jd.1 a).2,(jd.1 hq).2]at this;exact qll this x;have x:¬cpF q f<0:=of_decide_eq_false t;refine qL rfl (gr [.d,.d] (rf rfl (rc rfl (qz (qau (qcS [(0,.lst (l.map qp)),(2,.clo (.func 167) [] []),(4,.ptr (qp f)),(8,.int .i64 ((l.length:Nat):Int)),(9,.int .i64 ((i:Nat):Int)),(10,.int .i64 ((m:Nat):Int))] (sc rfl (sc rfl (sc rfl (sc rfl (sc rfl (sc rfl (Sub.nil _))))))) ?_))))));refine IH _ _ _ oa ⟨i,m,rfl,by omega,by omega,rfl,rfl,B,fun k g z a hlt=>?_⟩;by_cases u:k=m;subst u;rw[hq]at a;obtain rfl:=Option.some.inj a;exact x hlt;have v:=(jd.1 a).1;have w:=(jd.1 hq).1;have:=JG.1 hs m k w v oa;rw[(jd.1 a).2,(jd.1 hq).2]at this;exact x (qll this hlt);have e:decide (((i:Nat):Int)<((j:Nat):Int))=false:=decide_eq_false oa;refine qa7 17 false rfl e (qL rfl (qi9 rfl ?_));obtain rfl:i=j:=by omega
 refine qcS [(0,.lst (l.map qp)),(2,.clo (.func 167) [] []),(4,.ptr (qp f)),(8,.int .i64 ((l.length:Nat):Int)),(9,.int .i64 ((i:Nat):Int)),(10,.int .i64 ((i:Nat):Int))] (sc rfl (sc rfl (sc rfl (sc rfl (sc rfl (sc rfl (Sub.nil _))))))) ?_;exact HK _ _ ⟨i,rfl,rfl,A,qzU B (fun g a=>C i g (jf _) a) A⟩
theorem qfA{P:Program}{o:Oper}{ρ:Operand→Option D}{α:Type}{f:α→D}{σ:St}{t e:TypeId}{n s by_:Nat}{parts:Array (Nat×Operand)}(xs:List Operand)(l:List α)(A:o.op= .buildSlice t n parts)(B:ElT P t e s by_)(d:parts.toList=(xs.zipIdx 0).map fun x=>(x.2,x.1))(hn:n=xs.length)(j:0<n)(m:n*s≤16777216)(C:yZ ρ xs (l.map f))(b:∀a,sz (f a)=s)(q:∀a,(f a).plain=true)(E:0<l.length):
 zp P o ρ σ fun d' σ'=>∃g c,d'= .vec (hdS g l.length c) l.length∧σ'= .vec (hdS g l.length c) (l.map f) e s::σ:=fun K p a w hi h=>by
 have F:=qtE (σ:=σ) xs l A B d hn j m C b q K p a w hi h;refine Oper.wp_mono (fun L w' r=>?_) F;obtain⟨v,d',σ',G,H,⟨u,rfl,rfl⟩,I,z,J⟩:=r;obtain⟨g,cap,xs',junk,rfl,_⟩:=qiB (z.ok _ (je ..)) (fun r=>by have:=congrArg List.length r;rw[jh,ji]at this;omega);refine⟨v,_,_,G,H,⟨g,cap,?_,?_⟩,I,z,J⟩<;>rw[jh]
theorem quY(l:List qu)(f:qu)(res:List qu×Int)(h:qh6 l f=some res):zf prog 202 [.lst (l.map qp),qp f] (.tup [.lst (res.1.map qp),.int .i64 res.2]):=by
 unfold qh6 at h;obtain⟨a,C,h⟩:=zV h;refine qam [(0,.lst (l.map qp)),(1,qp f)] func202 rfl rfl fun K hK=>(qx (gr [.d,.d,.d] (rd rfl (ql5 rfl rfl rfl) (rc rfl (rc rfl (qz (qx (qx (gr [.d,.d,.d,.d,.d,.d,.d,.d] (rf rfl (rd rfl (qcw rfl CaI.h (.oc rfl .nil) (qjb l a C)) (rd rfl (ql8 rfl rfl) (rf rfl ?_)))))))))))))
 refine qgm 11 rfl (fun j=>?_) (fun j=>?_);rw[j,cond_true]at h;obtain rfl:=Option.some.inj h;refine rh rfl (rh rfl (rh rfl (rd rfl (qiU rfl rfl rfl) (qz (qS rfl (qx (gr [.d,.d] (rc rfl (rc rfl (qz (qbN func202 [_,_] (.cons (zd rfl (Wk.full _)) (.cons (zd rfl (Wk.refl _)) .nil)) ?_)))))))))));rfl;rw[j,cond_false]at h;obtain⟨b,hb,h⟩:=zV h;refine rd rfl (qak rfl rfl (by exact zcm) (qar _)) (rd rfl (qcw rfl CaI.h (.oc rfl .nil) (qja f b hb)) (rd rfl (ql8 rfl rfl) (rd rfl (qhu rfl rfl rfl) (qz ?_))));refine qbB 15 rfl (fun q=>?_) (fun q=>?_);rw[q,cond_true]at h;obtain rfl:=Option.some.inj h;refine qS rfl (qx (gr [.d,.d] (rc rfl (rc rfl (qz (qbN func202 [_,_] (.cons (zd rfl (Wk.full _)) (.cons (zd rfl (Wk.refl _)) .nil)) ?_))))));rfl;rw[q,cond_false]at h;have e:zcJ l:=by
  obtain⟨r,hr,hq⟩:=qkb l;rw[C]at hr;cases hr;exact hq.1 (by simpa using j)
 refine qL rfl (qaC (qx (gr [.d,.d,.d,.d,.d,.d,.d,.d] (rf rfl (rd rfl (qak rfl rfl (by exact zcm) (qar _)) (rd rfl (qcw rfl CaI.h (.oc rfl (.oc rfl (.oc rfl .nil))) (qw7 l f e.p (by have:=e.n;omega))) (rf rfl (rd rfl (qec rfl rfl rfl) (rd rfl (qec rfl rfl rfl) (rc rfl (rc rfl (qz (qx ?_)))))))))))));refine qx (gr [.d] (rf rfl (qz ?_)));refine qbB 22 rfl (fun t=>?_) (fun t=>?_);rw[t,cond_true]at h;obtain rfl:=Option.some.inj h;refine qS rfl (qx (gr [.d,.d] (rc rfl (rc rfl (qz (qbN func202 [_,_] (.cons (zd rfl (Wk.full _)) (.cons (zd rfl (Wk.refl _)) .nil)) ?_))))));rfl;rw[t,cond_false]at h;refine qL rfl (qaC (qx (qx (gr [.d,.d,.d] (rf rfl (rd rfl (qfU (f:=qp) l rfl y8 rfl (asl rfl)) (rd rfl (qcs rfl rfl rfl rfl) (qz ?_))))))));refine qbB 25 rfl (fun u=>?_) (fun u=>?_);rw[show decide ((l.length:Int)≥5000)=true from u,cond_true]at h;obtain rfl:=Option.some.inj h;refine qS rfl (qx (gr [.d,.d] (rc rfl (rc rfl (qz (qbN func202 [_,_] (.cons (zd rfl (Wk.full _)) (.cons (zd rfl (Wk.refl _)) .nil)) ?_))))));rfl;rw[show decide ((l.length:Int)≥5000)=false from u,cond_false]at h;obtain rfl:=Option.some.inj h;refine qL rfl (qaC ?_);have v:zar l f≤l.length:=by unfold zar;exact(List.takeWhile_sublist _).length_le
 by_cases x:l=[]
 subst x;refine qx (ga [(0,.d),(1,.d),(2,.d),(3,.d),(4,.w),(5,.w),(6,.d),(7,.d)] (rf rfl (rd rfl (qcw rfl CaI.h (.oc rfl .nil) qvg) (rf rfl (rd rfl (qak rfl rfl (by exact zcm) (qar _)) (ew rfl (qfA (f:=qp) [.tmp 29] [f] rfl y8 rfl rfl od od (.oc rfl .nil) qar (fun _=>rfl) og) ?_))))));rintro _ _ ⟨z,A,rfl,rfl⟩;refine ew rfl (qee [] rfl CaI.h (.oc rfl (.oc rfl (.oc rfl .nil))) og (qsI f z A)) ?_;rintro _ _ ⟨_,⟨rfl,rfl⟩,rfl⟩;refine rc rfl (rc rfl (qz (qbN func202 [_,_] (.cons (zd rfl (Wk.refl _)) (.cons (zd rfl (Wk.refl _)) .nil)) ?_)));rfl
 · have m:0<l.length:=JS.2 x
   refine qx ?_;refine qt9 ob ob [(0,.d),(2,.d),(3,.d)] (.cons 1 [] (.cons 4 [] (.cons 5 [(6,.d),(7,.d)] .nil .nil) .nil) (.cons 4 [] (.cons 1 [] (.cons 5 [(6,.d),(7,.d)] .nil .nil) .nil) .nil)) ob (fun env σ=>Sub [(4,.lst ((l.take (zar l f)++f::l.drop (zar l f)).map qp)),(5,.int .i64 0)] env∧σ=[]) ?_ ?_
   · refine rf rfl ?_
     refine rf rfl (rd rfl (qak rfl rfl (by exact zcm) (qar _)) (qz ?_));refine qiL ?_ (qiL ?_ zba)
     · refine ew rfl (qee _ rfl CaI.h (.oc rfl .nil) (pf0 _) (qsm l m (by have:=e.n;omega))) ?_
       rintro _ _ ⟨_,⟨g,c,rfl,rfl⟩,rfl⟩;refine qz ?_;refine qiL ?_ zba;refine ew rfl (qfA (f:=qp) [.tmp 29] [f] rfl y8 rfl rfl od od (.oc rfl .nil) qar (fun _=>rfl) og) ?_;rintro _ _ ⟨z,A,rfl,rfl⟩;refine qz ?_;refine qiL ?_ zba;refine ew rfl (qee [] rfl CaI.h (.oc rfl (.oc rfl (.oc rfl .nil))) (by simp;exact List.Perm.swap _ _ _) (qpf l f (zar l f) v m (by have:=e.n;omega) g c z A)) ?_;rintro _ _ ⟨_,⟨rfl,rfl⟩,rfl⟩;refine rc rfl (rc rfl (qz ?_));exact qte ⟨(sc rfl (sc rfl (Sub.nil _))),rfl⟩
     · refine ew rfl (qfA (f:=qp) [.tmp 29] [f] rfl y8 rfl rfl od od (.oc rfl .nil) qar (fun _=>rfl) og) ?_
       rintro _ _ ⟨z,A,rfl,rfl⟩;refine qz ?_;refine qiL ?_ zba;refine ew rfl (qee _ rfl CaI.h (.oc rfl .nil) (pf0 _) (qsm l m (by have:=e.n;omega))) ?_;rintro _ _ ⟨_,⟨g,c,rfl,rfl⟩,rfl⟩;refine qz ?_;refine qiL ?_ zba;refine ew rfl (qee [] rfl CaI.h (.oc rfl (.oc rfl (.oc rfl .nil))) og (qpf l f (zar l f) v m (by have:=e.n;omega) g c z A)) ?_;rintro _ _ ⟨_,⟨rfl,rfl⟩,rfl⟩;refine rc rfl (rc rfl (qz ?_));exact qte ⟨(sc rfl (sc rfl (Sub.nil _))),rfl⟩
   · rintro env _ ⟨B,rfl⟩
     refine qcS _ B (qbN func202 [_,_] (.cons (zd rfl (Wk.refl _)) (.cons (zd rfl (Wk.refl _)) .nil)) ?_);rfl
def ql3(x b:Int×T):Option Bool:=some (decide (x.1>b.1))
theorem qAL(x b:Int×T)(res:Bool)(hr:ql3 x b=some res):zf prog 359 [zw x,.ptr (zw b)] (.bool res):=by
 unfold ql3 at hr;refine qdg {} func359 rfl fun K hK hF=>?_;exact wk
instance(x b:Int×T):Cb prog 359 (ql3 x b) [zw x,.ptr (zw b)] (fun(res:Bool)=>.bool res):=⟨qAL x b⟩
def qm8(s:List (Int×T))(b:Int×T):Option Int:=forL (β:=Unit) (fun i1 c _ a=>(ql3 c b).bind fun d=>bif d then some ((i1:Int))else a ()) (fun _=>some ((-1))) 0 s ()
def qsE:Tb:={ls:=[(0,⟨Nat×Unit,[0,1,7],[],fun s e w=>([(8,.int .i64 (s.1:Int))],[]),[7]⟩)]}
theorem qy6(s:List (Int×T))(b:Int×T)(res:Int)(hr:qm8 s b=some res):zf prog 349 [.lst (s.map zw),.clo (.func 359) [] [.ptr (zw b)]] (.int .i64 res):=by
 unfold qm8 at hr;refine qdg qsE func349 rfl fun K hK hF=>?_;exact wk
def plB(l:List (Int×T))(b:Int×T):Nat:=(l.takeWhile fun x=>!decide (x.1>b.1)).length
theorem qyr(l:List (Int×T))(b:Int×T):qm8 l b=some (if plB l b=l.length then-1 else(plB l b:Int)):=by
 have key:∀(l:List (Int×T))(k:Nat),forL (β:=Unit) (fun i1 d _ a=>((ql3 d b).bind fun f=>(bif f then some ((i1:Int))else(a ())))) (fun _=>some ((-1))) k l ()=some (if plB l b=l.length then-1 else((k+plB l b:Nat):Int)):=by
  intro l;induction l with
  |nil=>intro k;rfl
  |cons q l c=>
   intro k;rw[forL];unfold ql3 at c⊢;rw[jb];by_cases hq:q.1>b.1;rw[decide_eq_true hq,cond_true];have e:plB (q::l) b=0:=by unfold plB;rw[JL,decide_eq_true hq];rfl
   rw[e,if_neg og];rfl;rw[decide_eq_false hq,cond_false,c (k+1)];have e:plB (q::l) b=plB l b+1:=by unfold plB;rw[JL,decide_eq_false hq];rfl
   rw[e,jg];by_cases h:plB l b=l.length;rw[if_pos h,if_pos oa];rw[if_neg h,if_neg oa];congr 2
   omega
 unfold qm8;rw[key l 0,jc]
theorem qyX(l:List (Int×T))(b:Int×T):l.take (plB l b)++b::l.drop (plB l b)=l.takeWhile (fun x=>!decide (x.1>b.1))++b::l.dropWhile fun x=>!decide (x.1>b.1):=by
 have h:=J0 (p:=fun x:Int×T=>!decide (x.1>b.1)) (l:=l);have c:l.take (plB l b)=l.takeWhile fun x=>!decide (x.1>b.1):=by
  have a:=vE (l₁:=l.takeWhile fun x=>!decide (x.1>b.1)) (l₂:=l.dropWhile fun x=>!decide (x.1>b.1)) (i:=plB l b) rfl;rw[h]at a;exact a
 have d:l.drop (plB l b)=l.dropWhile fun x=>!decide (x.1>b.1):=by
  have a:=List.drop_left' (l₁:=l.takeWhile fun x=>!decide (x.1>b.1)) (l₂:=l.dropWhile fun x=>!decide (x.1>b.1)) (i:=plB l b) rfl;rw[h]at a;exact a
 rw[c,d]
theorem qsD(l:List (Int×T))(b:Int×T)(res:List (Int×T))(h:qh5 l b=some res):zf prog 329 [.lst (l.map zw),zw b] (.lst (res.map zw)):=by
 unfold qh5 at h;obtain⟨a,rfl⟩:l.length<1000000000∧l.take (plB l b)++b::l.drop (plB l b)=res:=by
  split at h
  rename_i a;exact⟨a,(qyX l b).trans (Option.some.inj h)⟩
  cases h
 have q:plB l b≤l.length:=by unfold plB;exact(List.takeWhile_sublist _).length_le
 refine qam [(0,.lst (l.map zw)),(1,zw b)] func329 rfl rfl fun K hK=>(qx (gr [.d,.d] (rd rfl (ql5 rfl rfl rfl) (rc rfl (qz (qx (gr [.d,.d,.d,.d] (rf rfl (rd rfl (qfW rfl rfl rfl) (rd rfl (qcw rfl CaI.h (.oc rfl (.oc rfl .nil)) (qy6 l b _ (qyr l b))) (rc rfl (qz (qx ?_)))))))))))))
 refine qx (gr [.d,.d] (rf rfl (rd rfl (qcs rfl rfl rfl rfl) (qz ?_))));by_cases r:plB l b=l.length
 · rw[if_pos r]
   refine qa7 10 true rfl od (qS rfl (gr [.d,.d,.d] (rf rfl (rd rfl (qfU (f:=zw) l rfl y7 rfl (asl rfl)) (rc rfl (qz ?_))))));rw[←r];refine qcS [(0,.lst (l.map zw)),(3,.ptr (zw b)),(5,.int .i64 ((plB l b:Nat):Int))] (sc rfl (sc rfl (sc rfl (Sub.nil _)))) ?_;by_cases j:l=[]
   · subst j
     refine qx (ga [(0,.d),(1,.d),(2,.d),(3,.d),(4,.w),(5,.w),(6,.d)] (rf rfl (rd rfl (qcw rfl CaI.h (.oc rfl .nil) qo0) (rf rfl (rd rfl (qak rfl rfl (by exact tyBi) (qfp _)) (ew rfl (qfA (f:=zw) [.tmp 16] [b] rfl y7 rfl rfl od od (.oc rfl .nil) qfp (fun _=>rfl) og) ?_))))));rintro _ _ ⟨m,n,rfl,rfl⟩;refine ew rfl (qee [] rfl CaI.h (.oc rfl (.oc rfl (.oc rfl .nil))) og (qn3 b m n)) ?_;rintro _ _ ⟨_,⟨rfl,rfl⟩,rfl⟩;refine rc rfl (qz (qbN func329 [_] (.cons (zd rfl (Wk.refl _)) .nil) ?_));rfl
   · have e:0<l.length:=JS.2 j
     refine qx ?_;refine qt9 ob ob [(0,.d),(2,.d),(3,.d)] (.cons 1 [] (.cons 4 [] (.cons 5 [(6,.d)] .nil .nil) .nil) (.cons 4 [] (.cons 1 [] (.cons 5 [(6,.d)] .nil .nil) .nil) .nil)) ob (fun env σ=>Sub [(4,.lst ((l.take (plB l b)++b::l.drop (plB l b)).map zw))] env∧σ=[]) ?_ ?_
     · refine rf rfl ?_
       refine rf rfl (rd rfl (qak rfl rfl (by exact tyBi) (qfp _)) (qz ?_));refine qiL ?_ (qiL ?_ zba)
       · refine ew rfl (qee _ rfl CaI.h (.oc rfl .nil) (pf0 _) (qk9 l e a)) ?_
         rintro _ _ ⟨_,⟨g,c,rfl,rfl⟩,rfl⟩;refine qz ?_;refine qiL ?_ zba;refine ew rfl (qfA (f:=zw) [.tmp 16] [b] rfl y7 rfl rfl od od (.oc rfl .nil) qfp (fun _=>rfl) og) ?_;rintro _ _ ⟨m,n,rfl,rfl⟩;refine qz ?_;refine qiL ?_ zba;refine ew rfl (qee [] rfl CaI.h (.oc rfl (.oc rfl (.oc rfl .nil))) (by simp;exact List.Perm.swap _ _ _) (qjZ l b (plB l b) q e a g c m n)) ?_;rintro _ _ ⟨_,⟨rfl,rfl⟩,rfl⟩;refine rc rfl (qz ?_);exact qte ⟨(sc rfl (Sub.nil _)),rfl⟩
       · refine ew rfl (qfA (f:=zw) [.tmp 16] [b] rfl y7 rfl rfl od od (.oc rfl .nil) qfp (fun _=>rfl) og) ?_
         rintro _ _ ⟨m,n,rfl,rfl⟩;refine qz ?_;refine qiL ?_ zba;refine ew rfl (qee _ rfl CaI.h (.oc rfl .nil) (pf0 _) (qk9 l e a)) ?_;rintro _ _ ⟨_,⟨g,c,rfl,rfl⟩,rfl⟩;refine qz ?_;refine qiL ?_ zba;refine ew rfl (qee [] rfl CaI.h (.oc rfl (.oc rfl (.oc rfl .nil))) og (qjZ l b (plB l b) q e a g c m n)) ?_;rintro _ _ ⟨_,⟨rfl,rfl⟩,rfl⟩;refine rc rfl (qz ?_);exact qte ⟨(sc rfl (Sub.nil _)),rfl⟩
     · rintro env _ ⟨p,rfl⟩
       refine qcS _ p (qbN func329 [_] (.cons (zd rfl (Wk.refl _)) .nil) ?_);rfl
 · rw[if_neg r]
   refine qa7 10 false rfl (decide_eq_false oa) (qL rfl (qaC (qcS [(0,.lst (l.map zw)),(3,.ptr (zw b)),(5,.int .i64 ((plB l b:Nat):Int))] (sc rfl (sc rfl (sc rfl (Sub.nil _)))) ?_)));by_cases j:l=[]
   · subst j
     refine qx (ga [(0,.d),(1,.d),(2,.d),(3,.d),(4,.w),(5,.w),(6,.d)] (rf rfl (rd rfl (qcw rfl CaI.h (.oc rfl .nil) qo0) (rf rfl (rd rfl (qak rfl rfl (by exact tyBi) (qfp _)) (ew rfl (qfA (f:=zw) [.tmp 16] [b] rfl y7 rfl rfl od od (.oc rfl .nil) qfp (fun _=>rfl) og) ?_))))));rintro _ _ ⟨m,n,rfl,rfl⟩;refine ew rfl (qee [] rfl CaI.h (.oc rfl (.oc rfl (.oc rfl .nil))) og (qn3 b m n)) ?_;rintro _ _ ⟨_,⟨rfl,rfl⟩,rfl⟩;refine rc rfl (qz (qbN func329 [_] (.cons (zd rfl (Wk.refl _)) .nil) ?_));rfl
   · have e:0<l.length:=JS.2 j
     refine qx ?_;refine qt9 ob ob [(0,.d),(2,.d),(3,.d)] (.cons 1 [] (.cons 4 [] (.cons 5 [(6,.d)] .nil .nil) .nil) (.cons 4 [] (.cons 1 [] (.cons 5 [(6,.d)] .nil .nil) .nil) .nil)) ob (fun env σ=>Sub [(4,.lst ((l.take (plB l b)++b::l.drop (plB l b)).map zw))] env∧σ=[]) ?_ ?_
     · refine rf rfl ?_
       refine rf rfl (rd rfl (qak rfl rfl (by exact tyBi) (qfp _)) (qz ?_));refine qiL ?_ (qiL ?_ zba)
       · refine ew rfl (qee _ rfl CaI.h (.oc rfl .nil) (pf0 _) (qk9 l e a)) ?_
         rintro _ _ ⟨_,⟨g,c,rfl,rfl⟩,rfl⟩;refine qz ?_;refine qiL ?_ zba;refine ew rfl (qfA (f:=zw) [.tmp 16] [b] rfl y7 rfl rfl od od (.oc rfl .nil) qfp (fun _=>rfl) og) ?_;rintro _ _ ⟨m,n,rfl,rfl⟩;refine qz ?_;refine qiL ?_ zba;refine ew rfl (qee [] rfl CaI.h (.oc rfl (.oc rfl (.oc rfl .nil))) (by simp;exact List.Perm.swap _ _ _) (qjZ l b (plB l b) q e a g c m n)) ?_;rintro _ _ ⟨_,⟨rfl,rfl⟩,rfl⟩;refine rc rfl (qz ?_);exact qte ⟨(sc rfl (Sub.nil _)),rfl⟩
       · refine ew rfl (qfA (f:=zw) [.tmp 16] [b] rfl y7 rfl rfl od od (.oc rfl .nil) qfp (fun _=>rfl) og) ?_
         rintro _ _ ⟨m,n,rfl,rfl⟩;refine qz ?_;refine qiL ?_ zba;refine ew rfl (qee _ rfl CaI.h (.oc rfl .nil) (pf0 _) (qk9 l e a)) ?_;rintro _ _ ⟨_,⟨g,c,rfl,rfl⟩,rfl⟩;refine qz ?_;refine qiL ?_ zba;refine ew rfl (qee [] rfl CaI.h (.oc rfl (.oc rfl (.oc rfl .nil))) og (qjZ l b (plB l b) q e a g c m n)) ?_;rintro _ _ ⟨_,⟨rfl,rfl⟩,rfl⟩;refine rc rfl (qz ?_);exact qte ⟨(sc rfl (Sub.nil _)),rfl⟩
     · rintro env _ ⟨p,rfl⟩
       refine qcS _ p (qbN func329 [_] (.cons (zd rfl (Wk.refl _)) .nil) ?_);rfl
end
end Go.Proofs.YtgcegilpajfdhaaGreat
