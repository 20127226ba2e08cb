/-
 Texts of the seat,merged.
-/
import Derived.Test.YtgcegilpajfdhaaGreatLTH
set_option linter.unusedVariables false
set_option linter.unusedSimpArgs false
set_option linter.unnecessarySimpa false
set_option linter.all false
set_option maxHeartbeats 8000000
namespace Go.Proofs.YtgcegilpajfdhaaGreat
open Go.Proofs.Tryz
set_option maxRecDepth 100000
open Go.RowKit
noncomputable section
def qfj(fuel:Nat)(a0:List (Int×T))(j:T)(l:T):Option ((List (Int×T))×Int):=forL (β:=(List T)×(List T)) (fun _ g(c,d) e=>(qc0 g.1).bind fun f=>(qag f g.2 c d).bind fun a=>e (a.1,a.2)) (fun(c,d)=>(qag j l c d).bind fun h=>(qfw fuel h.1 h.2).bind fun b=>some (b.1,b.2)) 0 a0 ([],[])
def qoE:Tb:={ow:=[8],fz:=[(5,[11])],rg:=[(6,[(0,0),(1,0),(2,0),(3,0),(4,0),(5,0),(6,1)])],nl:=[(1,[(77,4,false),(77,4,false)])],ls:=[(0,⟨Nat×((List T)×(List T)),[4,5,8,9,13,14],[8],fun s e w=>([(15,.int .i64 (s.1:Int))],[.cell (oB e 8) (.agg [.own (oS w [0]) (s.2.1.map zg),.own (oS w [1]) (s.2.2.map zg)]),.row (oS w [0]) s.2.1.length 77 4,.row (oS w [1]) s.2.2.length 77 4]),[14]⟩)]}
instance(fuel:Nat)(a0:List (Int×T))(a:T)(b:T):Cb prog 287 (qfj fuel a0 a b) [.lst (a0.map zw),zg a,zg b] (fun res=>.tup [.lst (res.1.map zw),.int .i64 res.2]):=kC qoE func287 rfl (by unfold qfj;exact wS9)
def qeZ(fuel:Nat)(a0:List (Int×T))(p:T)(q:T):Option ((List (Int×T))×(List Int)×Int):=(qeH a0 [p,q]).bind fun r=>bif(!r)then some ([],[],2)else (qfj fuel a0 p q).bind fun h=>bif(h.2 !=(0:Int))then some ([],[],h.2)else forL (β:=(List Int)×Int) (fun _ c(e,f) d=>jn (β:=Int) (fun g=>forF (β:=Int) (fun a j=>bif(decide (a<(a0.length:Int)))then (getI a0 a).bind fun l=>bif(decide (l.1<c.1))then j (wr (a+(1:Int))) else g a   else g a) fuel f) (fun b=>bif(b==(a0.length:Int))then (appO 8 e [c.1]).bind fun m=>d (m,b)  else (getI a0 b).bind fun n=>bif(n.1 !=c.1)then (appO 8 e [c.1]).bind fun o=>d (o,b)  else d (e,b))) (fun(e,f)=>some (h.1,e,0)) 0 h.1 ([],0)
def qpW:Tb:={ow:=[7],fz:=[(9,[11])],ls:=[(0,⟨Nat×((List Int)×Int),[0,6,28,29],[7],fun s e w=>([(7,.own (oU e 7) (s.2.1.map (D.int .i64))),(9,.int .i64 s.2.2),(30,.int .i64 (s.1:Int))],[.row (oU e 7) s.2.1.length 3 1]),[29]⟩),(2,⟨Int,[0,6,7,11,28,29,30],[],fun s e w=>([(9,.int .i64 s)],[]),[]⟩)],bs:=[(2,⟨Int,[0,6,7,11,28,29,30],[],fun s e w=>([(9,.int .i64 s)],[]),[]⟩)]}
instance(fuel:Nat)(a0:List (Int×T))(a:T)(b:T):Cb prog 251 (qeZ fuel a0 a b) [.lst (a0.map zw),zg a,zg b] (fun res=>.tup [.lst (res.1.map zw),.lst (res.2.1.map (D.int .i64)),.int .i64 res.2.2]):=kC qpW func251 rfl (by unfold qeZ;exact wS9)
def qeR(fuel:Nat)(a0:List (Int×T))(c:T)(d:T):Option ((List (Int×T))×(List Int)×Int):=(qeH a0 [c,d]).bind fun e=>bif(!e)then some ([],[],2)else (qhq fuel a0 d).bind fun f=>(qjW f).bind fun a=>bif(a.2 !=(0:Int))then some ([],[],a.2)else (qiq a.1).bind fun g=>(qeZ fuel a0 c g).bind fun b=>some (b.1,b.2.1,b.2.2)
instance(fuel:Nat)(a0:List (Int×T))(a:T)(b:T):Cb prog 252 (qeR fuel a0 a b) [.lst (a0.map zw),zg a,zg b] (fun res=>.tup [.lst (res.1.map zw),.lst (res.2.1.map (D.int .i64)),.int .i64 res.2.2]):=kC {} func252 rfl (by unfold qeR;exact wS9)
def qeW(fuel:Nat)(a0:List (Int×T))(b:Gl):Option ((List (Int×T))×(List Int)×Bool×Int):=bif(b.op==(1:Int))then some (a0,[],true,0)else bif(b.op==(3:Int))then (getI b.ts 0).bind fun e=>(getI b.ts 1).bind fun f=>(qeZ fuel a0 e f).bind fun c=>bif(c.2.2==(6:Int))then some ([],[],false,c.2.2)else some (c.1,c.2.1,(c.2.2==(0:Int)),0)    else bif(b.op==(4:Int))then (getI b.ts 0).bind fun g=>(getI b.ts 1).bind fun d=>(qeR fuel a0 g d).bind fun a=>bif(a.2.2==(6:Int))then some ([],[],false,a.2.2)else some (a.1,a.2.1,(a.2.2==(0:Int)),0)    else some ([],[],false,0)
instance(fuel:Nat)(a0:List (Int×T))(a:Gl):Cb prog 191 (qeW fuel a0 a) [.lst (a0.map zw),zG a] (fun res=>.tup [.lst (res.1.map zw),.lst (res.2.1.map (D.int .i64)),.bool res.2.2.1,.int .i64 res.2.2.2]):=kC {} func191 rfl (by unfold qeW;exact wS9)
theorem qfb(l res:(List qB))(hr:clO 64 l=some res):Spec prog 192 [.lst (l.map qG)] [] (fun d σ=>∃b,d= .arr b 5 0 res.length∧σ=[.arr b (res.map qG) 72 5]):=by
 obtain⟨h,rfl⟩:=qm2 hr;refine qdg {} func192 rfl fun K hK hF=>?_;exact zbv
instance(l:List qB):Co prog 192 (clO 64 l) (fun(nm:Unit)=>⟨[.lst (l.map qG)],[],fun res d σ=>∃b,d= .arr b 5 0 res.length∧σ=[.arr b (res.map qG) 72 5]⟩):=⟨fun _ r h=>qfb l r h⟩
def qf9(a0:List qB)(b:List (Int×At))(c:List Int):Option ((List qB)×Int):=(qhP b c).bind fun d=>(qlE d).bind fun a=>bif(decide ((wr ((a0.length:Int)+(a.length:Int)))>(1000:Int)))then some ([],6)else (subO a0 0 (a0.length:Int)).bind fun e=>(appO 64 e a).bind fun f=>some (f,0)
instance(a0:List qB)(a:List (Int×At))(b:List Int):Cb prog 194 (qf9 a0 a b) [.lst (a0.map qG),.lst (a.map zt),.lst (b.map (D.int .i64))] (fun res=>.tup [.lst (res.1.map qG),.int .i64 res.2]):=kC {} func194 rfl (by unfold qf9;exact wS9)
def qeO(fuel:Nat)(a0:List (Int×T))(a:At):Option At:=(qbM fuel a0 a.ts).bind fun b=>some ((⟨a.n,b⟩:At))
def qlm:Tb:={rf:=[3]}
instance(fuel:Nat)(a0:List (Int×T))(a:At):Cb prog 256 (qeO fuel a0 a) [.lst (a0.map zw),zK a] (fun res=>zK res):=kC qlm func256 rfl (by unfold qeO;exact wS9)
def qff(fuel:Nat)(a0:List (Int×At))(a:List (Int×T)):Option ((List (Int×At))):=(mkA 48 (a0.length:Int) (0,(⟨⟨#[]⟩,[]⟩:At))).bind fun b=>forL (β:=(List (Int×At))) (fun i3 d a4 c=>(qeO fuel a d.2).bind fun e=>(getI a4 (i3:Int)).bind fun g=>(zaP a4 (i3:Int) (d.1,e)).bind fun f=>c f) (fun a4=>some a4) 0 a0 b
def qow:Tb:={fz:=[(4,[7])],rg:=[(5,[(0,0),(1,0),(2,0),(3,0),(4,0),(5,0),(6,0),(7,0),(8,0),(9,0),(10,1)])],fb:=[(0,[5])],ls:=[(0,⟨Nat×(List (Int×At)),[1,11,12],[5],fun s e w=>([(13,.int .i64 (s.1:Int)),(5,.arr (oB e 5) 3 0 s.2.length)],[.arr (oB e 5) (s.2.map zt) 83 3]),[9]⟩)]}
instance(fuel:Nat)(a0:List (Int×At))(a:List (Int×T)):Cb prog 195 (qff fuel a0 a) [.lst (a0.map zt),.lst (a.map zw)] (fun res=>.lst (res.map zt)):=kC qow func195 rfl (by unfold qff;exact wS9)
def qeP(a0:(Int×At)):Option Bool:=(qdY a0.2).bind fun a=>some a
instance(a0:(Int×At)):Cb prog 196 (qeP a0) [zt a0] (fun res=>.bool res):=kC {} func196 rfl (by unfold qeP;exact wS9)
def qcL(a0:(Int×At)):Option Bool:=(qeP a0).bind fun a=>some ((!a))
instance(a0:(Int×At)):Cb prog 177 (qcL a0) [zt a0,.ptr (.clo (.func 196) [] [])] (fun res=>.bool res):=kC {} func177 rfl (by unfold qcL;exact wS9)
def qdl(a0:List (Int×At)):Option Int:=forL (β:=Unit) (fun i1 b _ a=>(qcL b).bind fun c=>bif c then some ((i1:Int))else a ()) (fun _=>some ((-1))) 0 a0 ()
def qi0:Tb:={ls:=[(0,⟨Nat×Unit,[0,1,7],[],fun s e w=>([(8,.int .i64 (s.1:Int))],[]),[7]⟩)]}
instance(a0:List (Int×At)):Cb prog 187 (qdl a0) [.lst (a0.map zt),.clo (.func 177) [] [.ptr (.clo (.func 196) [] [])]] (fun res=>.int .i64 res):=kC qi0 func187 rfl (by unfold qdl;exact wS9)
def qcq(a0:List (Int×At)):Option Bool:=(qdl a0).bind fun a=>some ((decide (a≥(0:Int))))
instance(a0:List (Int×At)):Cb prog 176 (qcq a0) [.lst (a0.map zt),.clo (.func 177) [] [.ptr (.clo (.func 196) [] [])]] (fun res=>.bool res):=kC {} func176 rfl (by unfold qcq;exact wS9)
def qdL(a0:List (Int×At)):Option Bool:=(qcq a0).bind fun a=>some ((!a))
instance(a0:List (Int×At)):Cb prog 100 (qdL a0) [.lst (a0.map zt),.clo (.func 196) [] []] (fun res=>.bool res):=kC {} func100 rfl (by unfold qdL;exact wS9)
def qeA(fuel:Nat)(a0:qe)(n:Gl):Option (qe×Int):=(qeW fuel a0.fo n).bind fun d=>bif(d.2.2.2 !=(0:Int))then some (a0,d.2.2.2)else bif(!d.2.2.1)then some ((⟨a0.fk,a0.fh,a0.fo,a0.fC,a0.fl,a0.fg,true⟩:qe),0)else (clO 64 a0.fk).bind fun m=>forC (β:=(List qB)) (fun b a9 f=>(getI a9 b).bind fun a=>bif(a.fj==(0:Int))then (qb6 fuel d.1 a.fi).bind fun g=>(zaP a9 b (⟨g,a.fj,a.fA⟩:qB)).bind fun h=>(qef ((⟨g,a.fj,a.fA⟩:qB).fi)).bind fun j=>bif(!j)then some (a0,6)else f h     else f a9) (fun a9=>(qf9 a9 a0.fh d.2.1).bind fun c=>bif(c.2 !=(0:Int))then some (a0,c.2)else (qff fuel a0.fh d.1).bind fun e=>(qdL e).bind fun l=>bif(!l)then some ((⟨c.1,e,d.1,a0.fC,a0.fl,a0.fg,a0.fE⟩:qe),6)else some ((⟨c.1,e,d.1,a0.fC,a0.fl,a0.fg,a0.fE⟩:qe),0)) ((m.length:Int)-0:Int).toNat 0 m
def qmL:Tb:={rf:=[2],fb:=[(1,[10])],ls:=[(1,⟨Int×(List qB),[2,4,6,7,37],[5],fun s e w=>([(38,.int .i64 s.1),(10,.arr (oB e 10) 5 0 s.2.length)],[.arr (oB e 10) (s.2.map qG) 72 5]),[37]⟩)]}
instance(fuel:Nat)(a0:qe)(a:Gl):Cb prog 111 (qeA fuel a0 a) [qh a0,zG a] (fun res=>.tup [qh res.1,.int .i64 res.2]):=kC qmL func111 rfl (by unfold qeA;exact wS9)
def qcB(a0:List (Int×At))(a:Int):Option Bool:=(qae a0 a).bind fun b=>some ((decide (b≥(0:Int))))
instance(a0:List (Int×At))(a:Int):Cb prog 176 (qcB a0 a) [.lst (a0.map zt),.clo (.func 245) [] [.ptr (.int .i64 a)]] (fun res=>.bool res):=kC {} func176 rfl (by unfold qcB;exact wS9)
def qgh(a0:List (Int×At))(a:(Int×At)):Option ((List (Int×At))×Int):=(qeF a0).bind fun g=>bif(!g)then some ([],2)else (qdY a.2).bind fun h=>bif(!h)then some ([],2)else bif(decide (a.1<(1:Int)))then some ([],2)else (qe2 a.1).bind fun j=>(qcB a0 j).bind fun l=>bif l then some ([],8)else bif(decide ((a0.length:Int)>(0:Int)))then (getI a0 (wr ((a0.length:Int)-(1:Int)))).bind fun b=>bif(decide (a.1<b.1))then some ([],2)else bif((a0.length:Int)==(500:Int))then some ([],6)else (subO a0 0 (a0.length:Int)).bind fun c=>(appO 48 c [a]).bind fun d=>some (d,0)     else bif((a0.length:Int)==(500:Int))then some ([],6)else (subO a0 0 (a0.length:Int)).bind fun e=>(appO 48 e [a]).bind fun f=>some (f,0)
instance(a0:List (Int×At))(a:(Int×At)):Cb prog 197 (qgh a0 a) [.lst (a0.map zt),zt a] (fun res=>.tup [.lst (res.1.map zt),.int .i64 res.2]):=kC {} func197 rfl (by unfold qgh;exact wS9)
def qdz(a0:qe)(b:Gl):Option (qe×Int):=bif(a0.fl==(2147483648:Int))then some (a0,6)else bif(decide ((a0.fh.length:Int)≥(500:Int)))then some (a0,6)else (qgh a0.fh (a0.fl,(⟨b.n,b.ts⟩:At))).bind fun a=>bif(a.2 !=(0:Int))then some (a0,a.2)else some ((⟨a0.fk,a.1,a0.fo,a0.fC,(wr (a0.fl+(1:Int))),a0.fg,a0.fE⟩:qe),0)
def qkF:Tb:={rf:=[2]}
instance(a0:qe)(a:Gl):Cb prog 112 (qdz a0 a) [qh a0,zG a] (fun res=>.tup [qh res.1,.int .i64 res.2]):=kC qkF func112 rfl (by unfold qdz;exact wS9)
def qcu(a0:Gl):Option Bool:=(qef a0).bind fun a=>some ((!a))
instance(a0:Gl):Cb prog 259 (qcu a0) [zG a0,.ptr (.clo (.func 172) [] [])] (fun res=>.bool res):=kC {} func259 rfl (by unfold qcu;exact wS9)
def qdi(a0:List Gl):Option Int:=forL (β:=Unit) (fun i1 b _ a=>(qcu b).bind fun c=>bif c then some ((i1:Int))else a ()) (fun _=>some ((-1))) 0 a0 ()
def qir:Tb:={ls:=[(0,⟨Nat×Unit,[0,1,7],[],fun s e w=>([(8,.int .i64 (s.1:Int))],[]),[7]⟩)]}
instance(a0:List Gl):Cb prog 297 (qdi a0) [.lst (a0.map zG),.clo (.func 259) [] [.ptr (.clo (.func 172) [] [])]] (fun res=>.int .i64 res):=kC qir func297 rfl (by unfold qdi;exact wS9)
def qck(a0:List Gl):Option Bool:=(qdi a0).bind fun a=>some ((decide (a≥(0:Int))))
instance(a0:List Gl):Cb prog 258 (qck a0) [.lst (a0.map zG),.clo (.func 259) [] [.ptr (.clo (.func 172) [] [])]] (fun res=>.bool res):=kC {} func258 rfl (by unfold qck;exact wS9)
def qc4(a0:List Gl):Option Bool:=(qck a0).bind fun a=>some ((!a))
instance(a0:List Gl):Cb prog 199 (qc4 a0) [.lst (a0.map zG),.clo (.func 172) [] []] (fun res=>.bool res):=kC {} func199 rfl (by unfold qc4;exact wS9)
def qey(a0:List qu)(m:List Int):Option (List qu):=forL (β:=(List (Int×Bool))) (fun _ n e f=>(mputO e n true).bind fun g=>f g) (fun e=>forL (β:=(List qu)×(List (Int×Bool))) (fun _ b(d,a) c=>forL (β:=Unit) (fun _ h _ j=>bif(!((zk a h).getD false))then c (d,a) else j ()) (fun _=>(appO 32 d [b]).bind fun l=>c (l,a)) 0 b.ff ()) (fun(d,a)=>some d) 0 a0 ([],e)) 0 m []
def qmR:Tb:={ow:=[4,8],fz:=[(10,[10])],ls:=[(0,⟨Nat×(List (Int×Bool)),[0,5,16,17],[5],fun s e w=>([(18,.int .i64 (s.1:Int))],[.map (oB e 5) (zb (D.int .i64) D.bool s.2)]),[14]⟩),(2,⟨Nat×((List qu)×(List (Int×Bool))),[5,25,26],[5,8],fun s e w=>([(8,.own (oU e 8) (s.2.1.map qp)),(27,.int .i64 (s.1:Int))],[.map (oB e 5) (zb (D.int .i64) D.bool s.2.2),.row (oU e 8) s.2.1.length 108 2]),[26]⟩),(4,⟨Nat×Unit,[5,8,10,25,26,27,32,33],[],fun s e w=>([(34,.int .i64 (s.1:Int))],[]),[33]⟩)]}
instance(a0:List qu)(a:List Int):Cb prog 201 (qey a0 a) [.lst (a0.map qp),.lst (a.map (D.int .i64))] (fun res=>.lst (res.map qp)):=kC qmR func201 rfl (by unfold qey;exact wS9)
def qdV(fuel:Nat)(a0:qs)(c:qe)(f:qQ):Option (qe×Int):=(mkA 48 (a0.fx.length:Int) (⟨0,⟨#[]⟩,[]⟩:Gl)).bind fun a3=>forL (β:=(List Gl)) (fun i5 z d h=>(qbY fuel f.f1_choice.f1_env c.fg z).bind fun j=>(getI d (i5:Int)).bind fun A=>(zaP d (i5:Int) j).bind fun l=>h l) (fun d=>bif(decide ((wr (c.fg+a0.fF))>(1048576:Int)))then some (c,6)else (qc4 d).bind fun B=>bif(!B)then some (c,6)else bif(decide ((wr ((c.fk.length:Int)+(d.length:Int)))>(1000:Int)))then some (c,6)else (subO f.f1_choice.f0_ids (a0.fm.length:Int) (f.f1_choice.f0_ids.length:Int)).bind fun m=>forL (β:=qe) (fun _ n a o=>(qiJ a.fh n).bind fun p=>o (⟨a.fk,p.1,a.fo,a.fC,a.fl,a.fg,a.fE⟩:qe)) (fun a=>(mkA 8 (a.fh.length:Int) 0).bind fun q=>forL (β:=(List Int)) (fun i18 r b t=>(getI b (i18:Int)).bind fun C=>(zaP b (i18:Int) r.1).bind fun u=>t u) (fun b=>(qey a.fC b).bind fun e=>(qaU a0).bind fun v=>bif v then (qh6 e (⟨f.f0_event.fI,f.f1_choice.f0_ids⟩:qu)).bind fun g=>bif(g.2 !=(0:Int))then some ((⟨a.fk,a.fh,a.fo,e,a.fl,a.fg,a.fE⟩:qe),6)else (qgA a.fk d).bind fun w=>some ((⟨w,a.fh,a.fo,g.1,a.fl,(wr (a.fg+a0.fF)),a.fE⟩:qe),0)   else (qgA a.fk d).bind fun x=>some ((⟨x,a.fh,a.fo,e,a.fl,(wr (a.fg+a0.fF)),a.fE⟩:qe),0)) 0 a.fh q) 0 m c) 0 a0.fx a3
def qmK:Tb:={rf:=[4],fz:=[(4,[10]),(17,[15])],fb:=[(0,[8]),(4,[13])],ls:=[(0,⟨Nat×(List Gl),[3,4,5,6,23,24],[8],fun s e w=>([(25,.int .i64 (s.1:Int)),(8,.arr (oB e 8) 3 0 s.2.length)],[.arr (oB e 8) (s.2.map zG) 64 3]),[20]⟩),(2,⟨Nat×qe,[3,4,5,6,8,68,69],[4],fun s e w=>([(70,.int .i64 (s.1:Int))],[.cell (oB e 4) (qh s.2)]),[69]⟩),(4,⟨Nat×(List Int),[3,4,5,6,8,88,89],[13],fun s e w=>([(90,.int .i64 (s.1:Int)),(13,.arr (oB e 13) 1 0 s.2.length)],[.arr (oB e 13) (s.2.map (D.int .i64)) 3 1]),[85]⟩)]}
instance(fuel:Nat)(a0:qs)(a:qe)(b:qQ):Cb prog 113 (qdV fuel a0 a b) [qo a0,qh a,qaV b] (fun res=>.tup [qh res.1,.int .i64 res.2]):=kC qmK func113 rfl (by unfold qdV;exact wS9)
def qb7(fuel:Nat)(a0:qf)(a:qe)(b:qQ):Option (qe×Int):=(getI a.fk (wr ((a.fk.length:Int)-(1:Int)))).bind fun f=>(subO a.fk 0 (wr ((a.fk.length:Int)-(1:Int)))).bind fun g=>bif(b.f0_event.fG==(1:Int))then (qeA fuel (⟨g,a.fh,a.fo,a.fC,a.fl,a.fg,a.fE⟩:qe) f.fi).bind fun h=>bif(h.2 !=(0:Int))then some ((⟨[],[],[],[],0,0,false⟩:qe),h.2)else some (h.1,0)  else bif(b.f0_event.fG==(2:Int))then (appO 64 g [(⟨(⟨0,⟨#[]⟩,[]⟩:Gl),a.fl,0⟩:qB)]).bind fun j=>(qdz (⟨j,a.fh,a.fo,a.fC,a.fl,a.fg,a.fE⟩:qe) f.fi).bind fun c=>bif(c.2 !=(0:Int))then some ((⟨[],[],[],[],0,0,false⟩:qe),c.2)else some (c.1,0)   else bif(b.f0_event.fG==(3:Int))then (appO 64 g [(⟨(⟨0,⟨#[]⟩,[]⟩:Gl),f.fj,(wr (f.fA+(1:Int)))⟩:qB)]).bind fun l=>bif((0:Int) !=(0:Int))then some ((⟨[],[],[],[],0,0,false⟩:qe),0)else some ((⟨l,a.fh,a.fo,a.fC,a.fl,a.fg,a.fE⟩:qe),0)  else bif(b.f0_event.fG==(6:Int))then (appO 64 g [(⟨(⟨0,⟨#[]⟩,[]⟩:Gl),f.fj,(wr (f.fA+(1:Int)))⟩:qB)]).bind fun m=>bif((0:Int) !=(0:Int))then some ((⟨[],[],[],[],0,0,false⟩:qe),0)else some ((⟨m,a.fh,a.fo,a.fC,a.fl,a.fg,a.fE⟩:qe),0)  else bif(b.f0_event.fG==(7:Int))then bif((0:Int) !=(0:Int))then some ((⟨[],[],[],[],0,0,false⟩:qe),0)else some ((⟨g,a.fh,a.fo,a.fC,a.fl,a.fg,a.fE⟩:qe),0) else bif(b.f0_event.fG==(4:Int))then (getI a0.fe b.f0_event.fI).bind fun n=>(qdV fuel n (⟨g,a.fh,a.fo,a.fC,a.fl,a.fg,a.fE⟩:qe) b).bind fun d=>bif(d.2 !=(0:Int))then some ((⟨[],[],[],[],0,0,false⟩:qe),d.2)else some (d.1,0)   else (getI a0.fe b.f0_event.fI).bind fun o=>(qdV fuel o a b).bind fun e=>bif(e.2 !=(0:Int))then some ((⟨[],[],[],[],0,0,false⟩:qe),e.2)else some (e.1,0)
def qlq:Tb:={rf:=[4],fz:=[(2,[9])],rg:=[(20,[(0,0),(1,0),(2,0),(3,0),(4,0),(5,0),(6,0),(7,2),(8,0),(9,0),(10,0),(11,0),(12,0),(13,1),(14,0)])]}
instance(fuel:Nat)(a0:qf)(a:qe)(b:qQ):Cb prog 28 (qb7 fuel a0 a b) [qj a0,qh a,qaV b] (fun res=>.tup [qh res.1,.int .i64 res.2]):=kC qlq func28 rfl (by unfold qb7;exact wS9)
instance:EF prog 89 qO qbC 5:=⟨qoH,fun _=>rfl⟩
def qbl(fuel:Nat)(a0:qf)(j:qe)(l:Int):Option (qe×(List qO)×Int):=bif(decide (l<(0:Int)))then some ((⟨[],[],[],[],0,0,false⟩:qe),[],2)else (qbO a0 j).bind fun m=>bif(!m)then some ((⟨[],[],[],[],0,0,false⟩:qe),[],2)else forF (β:=(List qO)×qe) (fun(a,b) f=>(qcg fuel a0 b 1).bind fun d=>bif((d.length:Int)==(0:Int))then some (b,a,0)else bif((a.length:Int)==l)then some (b,a,15)else ((getI d 0).bind fun e=>(qb7 fuel a0 b e).bind fun g=>some (e,g)).bind fun c=>bif(c.2.2 !=(0:Int))then some (b,a,c.2.2)else (appO 56 a [c.1.f0_event]).bind fun h=>f (h,c.2.1)) fuel ([],j)
def qoJ:Tb:={rf:=[4],ow:=[7,9],fz:=[(9,[11])],rg:=[(12,[(0,0),(1,0),(2,0),(3,0),(4,0),(5,0),(6,0),(7,1),(8,1),(9,0)])],pl:=[(9,⟨qQ×(qe×Int),Nat,[2,3,4,6,9,10],fun e w=>[],[(0,0),(2,0),(3,0),(4,0)],(.cons 1 [(5,.d),(6,.d),(7,.d),(8,.d)] (.cons 9 [] (.cons 10 [(11,.d)] .nil .nil) .nil) (.cons 9 [] (.cons 1 [(5,.d),(6,.d),(7,.d),(8,.d)] (.cons 10 [(11,.d)] .nil .nil) .nil) .nil)),fun r nm e w=>([(11,.ref nm 0 []),(12,.int .i64 r.2.2)],[.cell nm (qh r.2.1)])⟩)],ls:=[(0,⟨(List qO)×qe,[2,3,4,6],[4,9],fun s e w=>([(9,.own (oU e 9) (s.1.map qbC))],[.cell (oB e 4) (qh s.2),.row (oU e 9) s.1.length 89 5]),[]⟩)]}
instance(fuel:Nat)(a0:qf)(a:qe)(b:Int):Cb prog 9 (qbl fuel a0 a b) [qj a0,qh a,.int .i64 b] (fun res=>.tup [qh res.1,.lst (res.2.1.map qbC),.int .i64 res.2.2]):=kC qoJ func9 rfl (by unfold qbl;exact wS9)
def qaF(fuel:Nat):Option Bool:=(qdW [(⟨0,⟨#[112]⟩,[(T.mk 0 5 ⟨#[]⟩ [])]⟩:Gl)] 0).bind fun b=>(qbl fuel (⟨[(⟨⟨#[112]⟩,1⟩:S_api_Decl),(⟨⟨#[113]⟩,1⟩:S_api_Decl)],[(⟨⟨#[]⟩,[],[(⟨⟨#[112]⟩,[(T.mk 1 0 ⟨#[]⟩ [])]⟩:At)],[],[(⟨0,⟨#[113]⟩,[(T.mk 1 0 ⟨#[]⟩ [])]⟩:Gl)],1⟩:qs)]⟩:qf) b 9).bind fun a=>bif(a.2.2==(0:Int))then bif((a.2.1.length:Int)==(4:Int))then bif((a.1.fh.length:Int)==(1:Int))then (getI a.1.fh 0).bind fun c=>some ((c.2.n.toList==(⟨#[113]⟩:ByteArray).toList)) else some false else some false else some false
def qjB:Tb:={fz:=[(2,[2]),(3,[3])],rg:=[(3,[(0,0),(1,0),(2,0),(3,0),(4,0),(5,0),(6,0),(7,0),(8,0),(9,0),(10,0),(11,1),(12,1),(13,0),(14,0)])]}
instance(fuel:Nat):Cb prog 8 (qaF fuel) [] (fun res=>.bool res):=kC qjB func8 rfl (by unfold qaF;exact wS9)
end
noncomputable section
instance:AiI prog 29 2 1:=⟨_,⟨underlying29,by kernel_rfl⟩⟩
instance:CvI prog 5 3 .i64:=⟨_,underlying5,underlying3⟩
def qaW(fuel:Nat)(a0:List Int):Option (qe×Int):=(qew fuel a0 2).bind fun a=>some (a.1,a.2)
instance(fuel:Nat)(a0:List Int):Cb prog 10 (qaW fuel a0) [.lst (a0.map (D.int .u8))] (fun res=>.tup [qh res.1,.int .i64 res.2]):=kC {} func10 rfl (by unfold qaW;exact wS9)
def qb8(fuel:Nat)(a0:List Int):Option (qf×Int):=(qe4 fuel a0 1).bind fun a=>some (a.1,a.2)
instance(fuel:Nat)(a0:List Int):Cb prog 12 (qb8 fuel a0) [.lst (a0.map (D.int .u8))] (fun res=>.tup [qj res.1,.int .i64 res.2]):=kC {} func12 rfl (by unfold qb8;exact wS9)
def qaO(a0:List qB)(d:List qB):Option Bool:=bif((a0.length:Int) !=(d.length:Int))then some false else forL (β:=Unit) (fun i2 a _ b=>(getI d (i2:Int)).bind fun c=>bif(a.fj !=c.fj)then some false else bif(a.fA !=c.fA)then some false else (qiP a.fi c.fi).bind fun e=>bif(!e)then some false else b ()) (fun _=>some true) 0 a0 ()
def qgo:Tb:={ls:=[(0,⟨Nat×Unit,[0,1],[],fun s e w=>([(5,.int .i64 (s.1:Int))],[]),[7]⟩)]}
instance(a0:List qB)(a:List qB):Cb prog 70 (qaO a0 a) [.lst (a0.map qG),.lst (a.map qG)] (fun res=>.bool res):=kC qgo func70 rfl (by unfold qaO;exact wS9)
def qb4(a0:List (Int×At))(b:List (Int×At)):Option Bool:=bif((a0.length:Int) !=(b.length:Int))then some false else forL (β:=Unit) (fun i2 c _ a=>(getI b (i2:Int)).bind fun d=>bif(c.1 !=d.1)then some false else (ql6 c.2 d.2).bind fun e=>bif(!e)then some false else a ()) (fun _=>some true) 0 a0 ()
def qiE:Tb:={ls:=[(0,⟨Nat×Unit,[0,1],[],fun s e w=>([(5,.int .i64 (s.1:Int))],[]),[7]⟩)]}
instance(a0:List (Int×At))(a:List (Int×At)):Cb prog 71 (qb4 a0 a) [.lst (a0.map zt),.lst (a.map zt)] (fun res=>.bool res):=kC qiE func71 rfl (by unfold qb4;exact wS9)
def qcd(a0:List (Int×T))(b:List (Int×T)):Option Bool:=bif((a0.length:Int) !=(b.length:Int))then some false else jn (β:=Unit) (fun a=>forL (β:=Unit) (fun i2 d _ c=>bif(decide ((i2:Int)<(b.length:Int)))then (getI b (i2:Int)).bind fun e=>bif(d.1 !=e.1)then some false else (qgQ d.2 e.2).bind fun f=>bif(!f)then some false else c ()     else a ()) (fun _=>a ()) 0 a0 ()) (fun _=>some true)
def qi8:Tb:={ls:=[(0,⟨Nat×Unit,[0,1],[],fun s e w=>([(5,.int .i64 (s.1:Int))],[]),[7]⟩)],bs:=[(0,⟨Unit,[],[],fun s e w=>([],[]),[]⟩)]}
instance(a0:List (Int×T))(a:List (Int×T)):Cb prog 72 (qcd a0 a) [.lst (a0.map zw),.lst (a.map zw)] (fun res=>.bool res):=kC qi8 func72 rfl (by unfold qcd;exact wS9)
def qcb(a0:List qu)(b:List qu):Option Bool:=bif((a0.length:Int) !=(b.length:Int))then some false else jn (β:=Unit) (fun a=>forL (β:=Unit) (fun i2 d _ c=>bif(decide ((i2:Int)<(b.length:Int)))then (getI b (i2:Int)).bind fun e=>(qaJ d e).bind fun f=>bif(f !=(0:Int))then some false else c ()    else a ()) (fun _=>a ()) 0 a0 ()) (fun _=>some true)
def qit:Tb:={ls:=[(0,⟨Nat×Unit,[0,1],[],fun s e w=>([(5,.int .i64 (s.1:Int))],[]),[7]⟩)],bs:=[(0,⟨Unit,[],[],fun s e w=>([],[]),[]⟩)]}
instance(a0:List qu)(a:List qu):Cb prog 73 (qcb a0 a) [.lst (a0.map qp),.lst (a.map qp)] (fun res=>.bool res):=kC qit func73 rfl (by unfold qcb;exact wS9)
def qaL(a0:qe)(a:qe):Option Bool:=(qaO a0.fk a.fk).bind fun b=>bif b then (qb4 a0.fh a.fh).bind fun c=>bif c then (qcd a0.fo a.fo).bind fun d=>bif d then (qcb a0.fC a.fC).bind fun e=>bif e then bif(a0.fl==a.fl)then bif(a0.fg==a.fg)then some ((a0.fE==a.fE))else some false else some false else some false  else some false  else some false  else some false
instance(a0:qe)(a:qe):Cb prog 14 (qaL a0 a) [qh a0,qh a] (fun res=>.bool res):=kC {} func14 rfl (by unfold qaL;exact wS9)
def qab(a0:List At)(b:List At):Option Bool:=bif((a0.length:Int) !=(b.length:Int))then some false else forL (β:=Unit) (fun i2 c _ a=>(getI b (i2:Int)).bind fun d=>(ql6 c d).bind fun e=>bif(!e)then some false else a ()) (fun _=>some true) 0 a0 ()
def qjm:Tb:={ls:=[(0,⟨Nat×Unit,[0,1],[],fun s e w=>([(5,.int .i64 (s.1:Int))],[]),[7]⟩)]}
instance(a0:List At)(a:List At):Cb prog 74 (qab a0 a) [.lst (a0.map zK),.lst (a.map zK)] (fun res=>.bool res):=kC qjm func74 rfl (by unfold qab;exact wS9)
def qaa(a0:List Gl)(b:List Gl):Option Bool:=bif((a0.length:Int) !=(b.length:Int))then some false else forL (β:=Unit) (fun i2 c _ a=>(getI b (i2:Int)).bind fun d=>(qiP c d).bind fun e=>bif(!e)then some false else a ()) (fun _=>some true) 0 a0 ()
def qjn:Tb:={ls:=[(0,⟨Nat×Unit,[0,1],[],fun s e w=>([(5,.int .i64 (s.1:Int))],[]),[7]⟩)]}
instance(a0:List Gl)(a:List Gl):Cb prog 75 (qaa a0 a) [.lst (a0.map zG),.lst (a.map zG)] (fun res=>.bool res):=kC qjn func75 rfl (by unfold qaa;exact wS9)
def qbG(a0:qf)(d:qf):Option Bool:=bif((a0.fD.length:Int) !=(d.fD.length:Int))then some false else bif((a0.fe.length:Int) !=(d.fe.length:Int))then some false else forL (β:=Unit) (fun i3 m _ e=>(getI d.fD (i3:Int)).bind fun c=>bif(!(m.fy.toList==c.fy.toList))then some false else bif(m.fH !=c.fH)then some false else e ()) (fun _=>forL (β:=Unit) (fun i5 b _ f=>((getI d.fe (i5:Int)).bind fun n=>some (n,b)).bind fun a=>bif(!(b.fy.toList==a.1.fy.toList))then some false else bif(b.fF !=a.1.fF)then some false else (qab b.fm a.1.fm).bind fun g=>bif(!g)then some false else (qab b.ft a.1.ft).bind fun h=>bif(!h)then some false else (qaa b.fu a.1.fu).bind fun j=>bif(!j)then some false else (qaa b.fx a.1.fx).bind fun l=>bif(!l)then some false else f ()) (fun _=>some true) 0 a0.fe ()) 0 a0.fD ()
def qhH:Tb:={fz:=[(11,[7,8])],pl:=[(11,⟨qs×qs,Nat×Nat,[2,3,6],fun e w=>[],[(0,0),(1,0),(2,0),(3,0),(4,0),(5,0),(6,0),(7,0),(8,0),(9,0)],(.cons 10 [] (.cons 11 [] (.cons 12 [] (.cons 13 [] .nil .nil) .nil) .nil) (.cons 11 [] (.cons 10 [] (.cons 12 [] (.cons 13 [] .nil .nil) .nil) .nil) .nil)),fun r nm e w=>([(7,.ref nm.2 0 []),(8,.ref nm.1 0 [])],[.cell nm.1 (qo r.1),.cell nm.2 (qo r.2)])⟩)],ls:=[(0,⟨Nat×Unit,[2,3],[],fun s e w=>([(5,.int .i64 (s.1:Int))],[]),[11]⟩),(2,⟨Nat×Unit,[2,3],[],fun s e w=>([(6,.int .i64 (s.1:Int))],[]),[2,1]⟩)]}
instance(a0:qf)(a:qf):Cb prog 15 (qbG a0 a) [qj a0,qj a] (fun res=>.bool res):=kC qhH func15 rfl (by unfold qbG;exact wS9)
def qa4(a0:qO)(a:qO):Option Bool:=bif(a0.fG !=a.fG)then some false else bif(a0.fj !=a.fj)then some false else bif(a0.fA !=a.fA)then some false else bif(a0.fI !=a.fI)then some false else bif((a0.fL.length:Int) !=(a.fL.length:Int))then some false else forL (β:=Unit) (fun i6 c _ b=>(getI a.fL (i6:Int)).bind fun d=>bif(c !=d)then some false else b ()) (fun _=>some true) 0 a0.fL ()
def qgs:Tb:={ls:=[(0,⟨Nat×Unit,[2,3],[],fun s e w=>([(5,.int .i64 (s.1:Int))],[]),[35]⟩)]}
instance(a0:qO)(a:qO):Cb prog 76 (qa4 a0 a) [qbC a0,qbC a] (fun res=>.bool res):=kC qgs func76 rfl (by unfold qa4;exact wS9)
def qbD(a0:List qO)(b:List qO):Option Bool:=bif((a0.length:Int) !=(b.length:Int))then some false else forL (β:=Unit) (fun i2 c _ a=>(getI b (i2:Int)).bind fun d=>(qa4 c d).bind fun e=>bif(!e)then some false else a ()) (fun _=>some true) 0 a0 ()
def qhD:Tb:={ls:=[(0,⟨Nat×Unit,[0,1],[],fun s e w=>([(5,.int .i64 (s.1:Int))],[]),[7]⟩)]}
instance(a0:List qO)(a:List qO):Cb prog 16 (qbD a0 a) [.lst (a0.map qbC),.lst (a.map qbC)] (fun res=>.bool res):=kC qhD func16 rfl (by unfold qbD;exact wS9)
def qaj(fuel:Nat)(a0:qf)(f:qbp)(g:(Int×Int)):Option Bool:=(qbj a0).bind fun w=>bif(!w)then some true else (qas f.fK 5).bind fun x=>bif(!x)then some true else bif(decide (f.fJ<(0:Int)))then some true else bif(decide (f.fJ>(20:Int)))then some true else (qdW f.fK f.fJ).bind fun h=>(qbW fuel a0 h).bind fun z=>bif(!z)then (qaF fuel).bind fun j=>some j else (qbl fuel a0 h (wr (Int.tmod (IntKind.i64.wrap g.1) 20))).bind fun a=>(qaD fuel a.1).bind fun l=>(qaW fuel l).bind fun b=>(qbQ fuel a0).bind fun m=>(qb8 fuel m).bind fun c=>bif(b.2 !=(0:Int))then some false else bif(c.2 !=(0:Int))then some false else (qaL a.1 b.1).bind fun n=>bif(!n)then some false else (qbG a0 c.1).bind fun o=>bif(!o)then some false else bif(a.2.2 !=(15:Int))then (qaF fuel).bind fun p=>some p else (qbl fuel c.1 b.1 (wr (Int.tmod (IntKind.i64.wrap g.2) 20))).bind fun d=>(qbl fuel a0 h (wr ((wr (Int.tmod (IntKind.i64.wrap g.1) 20))+(wr (Int.tmod (IntKind.i64.wrap g.2) 20))))).bind fun e=>(appO 56 [] a.2.1).bind fun q=>(appO 56 q d.2.1).bind fun r=>(qaL d.1 e.1).bind fun t=>bif t then bif(d.2.2==e.2.2)then (qbD r e.2.1).bind fun u=>bif u then (qaF fuel).bind fun v=>some v else some false  else some false else some false
def qgk:Tb:={ow:=[23],fz:=[(3,[7]),(7,[10]),(8,[13]),(9,[15]),(14,[17]),(15,[20])]}
theorem qeB(fuel:Nat)(a0:qf)(a:qbp)(b:(Int×Int))(res:Bool)(hr:qaj fuel a0 a b=some res):zf prog 3 [qj a0,qaB a,zbg b] (.bool res):=by
 unfold qaj at hr;refine qdg qgk func3 rfl fun K hK hF=>?_;exact wk9
instance(fuel:Nat)(a0:qf)(a:qbp)(b:(Int×Int)):Cb prog 3 (qaj fuel a0 a b) [qj a0,qaB a,zbg b] (fun res=>.bool res):=⟨qeB fuel a0 a b⟩
end
theorem qgn{α:Type}{l:List α}{k:Nat}{q:α}(h:l[k]? =some q):getI l (k:Int)=some q:=by
 unfold getI;rw[if_pos oa,jO,h]
theorem Yl.getN{α ρ:Type}{Q:ρ→Prop}{l:List α}{k:Nat}{q:α}{f:α→Option ρ}(h:l[k]? =some q)(g:Yl (f q) Q):Yl ((Go.Proofs.YtgcegilpajfdhaaGreat.getI l (k:Int)).bind f) Q:=by
 rw[qgn h];exact g
theorem qhk{α:Type}{l:List α}{k:Nat}{x:α}(h:k<l.length):zaP l (k:Int) x=some (l.set k x):=by
 unfold zaP;rw[if_pos ⟨by omega,by simpa using h⟩,jO]
structure Uf(n:Nat)(U:List Int)(rep rk:Nat→Nat)(M:Nat):Prop where
 len:U.length=n
 up:∀k,k<n→∃u:Nat,U[k]? =some (u:Int)∧u<n∧rep u=rep k∧(u=k↔rep k=k)∧(u≠k→rk k<rk u)
 rp:∀k,k<n→rep k<n∧rep (rep k)=rep k
 bd:∀k,k<n→rk k≤M
 rc:M+zaI (fun k=>rep k==k) n≤n
theorem qo5{fuel n k M:Nat}{N:List qt}{U:List Int}{V S L:List (Int×Int)}{x:List (Int×qk)}{rep c:Nat→Nat}(h:Uf n U rep c M)(f:k<n)(F:n<fuel):Yl (qR fuel (k:Int) N U V S L x) fun r=>r.1=(rep k:Int)∧r.2.1=N∧Uf n r.2.2 rep c M:=by
 unfold qR;have G:=h.rc;refine Yl.forF (I:=fun s=>∃j:Nat,s.1=(j:Int)∧j<n∧s.2.1=N∧rep j=rep k∧Uf n s.2.2 rep c M) (μ:=fun s=>M-c s.1.toNat) ?_ fuel _ ⟨k,rfl,f,rfl,rfl,h⟩ oe;rintro⟨_,_,U⟩ H ⟨j,rfl,g,rfl,hr,a⟩ IH;dsimp only at a⊢;obtain⟨u,z,A,o,p,B⟩:=a.up j g;refine Yl.getN z (Yl.ite (fun b=>?_) fun he=>?_);have b:u≠j:=fun e=>by
  subst e;simp at b
 obtain⟨v,C,l,t,J,E⟩:=a.up u A;have hlt:c j<c v:=by
  have:=B b;by_cases w:v=u;subst w;exact this;have:=E w;omega
 have m:v≠j:=fun e=>by
  subst e;omega
 refine Yl.getN C ?_;rw[qhk (by rw[a.len];exact g)];refine Yl.getN (q:=(v:Int)) (by rw[List.getElem?_set_self (by rw[a.len];exact g)]) ?_;refine IH _ ⟨v,rfl,l,rfl,t.trans (o.trans hr),⟨by rw[vT];exact a.len,fun k f=>?_,a.rp,a.bd,a.rc⟩⟩ ?_;dsimp only;by_cases d:k=j;subst d;exact⟨v,by rw[List.getElem?_set_self (by rw[a.len];exact f)],l,t.trans o,⟨fun e=>absurd e m,fun e=>absurd (p.2 e) b⟩,fun _=>hlt⟩;rw[List.getElem?_set_ne (fun e=>d e.symm)];exact a.up k f;dsimp only;have:=a.bd v l;rw[jO,jO];omega;have he:u=j:=by
  have:(u:Int)=(j:Int):=by simpa using he
  omega
 exact .ret ⟨by rw[←hr,p.1 he],rfl,a⟩
structure Gr(F:Int)(N:List qt)(V S L:List (Int×Int))(rep:Nat→Nat):Prop where
 nd:∀(k:Nat)(q:qt),N[k]? =some q→zJ q.f0_term=true∧q.f1_args.length=q.f0_term.ar.length∧∀x∈q.f1_args,∃j:Nat,x=(j:Int)∧j<N.length
 vk:(zF V).Nodup
 vv:∀v k,zk V v=some k→0≤v∧v≤1048576∧v<F∧∃j:Nat,k=(j:Int)∧j<N.length
 sk:(zF S).Nodup∧∀x∈zF S,∃j:Nat,x=(j:Int)∧j<N.length
 sv:∀r k,zk S r=some k→∃(j:Nat)(q:qt),k=(j:Int)∧N[j]? =some q∧q.f0_term.k≠1
 lk:(zF L).Nodup∧∀x∈zF L,∃j:Nat,x=(j:Int)∧j<N.length
 lv:∀(r:Nat)(v:Int),rep r=r→zk L (r:Int)=some v→∃j:Nat,zk V v=some (j:Int)∧rep j=r
 sl:∀r:Nat,r<N.length→rep r=r→zk S (r:Int)=none→∃v,zk L (r:Int)=some v
theorem qr1{n:Nat}:∀{l:List Int},l.Nodup→(∀x∈l,∃j:Nat,x=(j:Int)∧j<n)→l.length=zaI (fun k=>l.contains (k:Int)) n
 |[],_,_=>by
  have:∀n,zaI (fun k=>([]:List Int).contains (k:Int)) n=0:=fun n=>by
   induction n with
   |zero=>rfl
   |succ n b=>
    unfold zaI;rw[b];rfl
  rw[this,ji]
 |x::l,h,a=>by
  obtain⟨c,d⟩:=vd.1 h;obtain⟨j,rfl,e⟩:=a x (je ..);rw[jg,qr1 d fun y hy=>a y (jp _ hy)];refine qjE n e og (by simpa using c) fun k _ f=>?_;simp only[List.contains_cons];have:((k:Int)==(j:Int))=false:=by simp;omega
  rw[this,vR]
theorem qg7{n:Nat}{l:List Int}(h:l.Nodup)(a:∀x∈l,∃j:Nat,x=(j:Int)∧j<n):l.length≤n:=by
 rw[qr1 h a];exact qqb _ _
theorem qyo{β:Type}{m:List (Int×β)}{n:Nat}{x:Int}{d:β}(h:(zF m).Nodup)(a:∀x∈zF m,∃j:Nat,x=(j:Int)∧j<n)(hn:n<9223372036854775807):mputO m x d=some (yo m x d):=by
 have:=qg7 h a;unfold zF at this;rw[jh]at this;unfold mputO;rw[if_pos oa]
theorem Yl.mputB{β ρ:Type}{Q:ρ→Prop}{m:List (Int×β)}{n:Nat}{x:Int}{d:β}{f:List (Int×β)→Option ρ}(h:(zF m).Nodup∧∀x∈zF m,∃j:Nat,x=(j:Int)∧j<n)(hn:n<9223372036854775807)(k:Yl (f (yo m x d)) Q):Yl ((Go.Proofs.YtgcegilpajfdhaaGreat.mputO m x d).bind f) Q:=by
 rw[qyo h.1 h.2 hn];exact k
theorem qiw{β:Type}{m:List (Int×β)}{n n':Nat}(x:Nat)(d:β)(h:(zF m).Nodup∧∀x∈zF m,∃j:Nat,x=(j:Int)∧j<n)(b:x<n')(hn:n≤n'):(zF (yo m (x:Int) d)).Nodup∧∀y∈zF (yo m (x:Int) d),∃j:Nat,y=(j:Int)∧j<n':=by
 refine⟨qpb _ _ h.1,fun y hy=>?_⟩;rw[qgK]at hy;have a:∀y∈zF m,∃j:Nat,y=(j:Int)∧j<n':=fun y hy=>by
  obtain⟨j,c,e⟩:=h.2 y hy;exact⟨j,c,by omega⟩
 split at hy
 exact a y hy;rcases jl.1 hy with hy|hy
 exact a y hy;exact⟨x,by simpa using hy,b⟩
def mrg(rep:Nat→Nat)(a b:Nat):Nat→Nat:=fun k=>if rep k=b then a else rep k
theorem que{rep:Nat→Nat}{a b:Nat}(d:rep a=a)(c:a≠b){r:Nat}(h:mrg rep a b r=r):rep r=r∧r≠b:=by
 unfold mrg at h;split at h
 subst h;exact⟨d,c⟩;rename_i f
 exact⟨h,fun e=>f (by rw[←e];exact h)⟩
theorem Uf.merge{n:Nat}{U:List Int}{rep g:Nat→Nat}{M a b:Nat}(h:Uf n U rep g M)(o:a<n)(hb:b<n)(ra:rep a=a)(j:rep b=b)(c:a≠b):Uf n (U.set b (a:Int)) (mrg rep a b) (fun k=>if k=a then max (g a) (g b+1)else g k) (M+1):=by
 refine⟨by rw[vT];exact h.len,fun k d=>?_,fun k d=>?_,fun k d=>?_,?_⟩;by_cases f:k=b;subst f;refine⟨a,by rw[List.getElem?_set_self (by rw[h.len];exact d)],o,?_,?_,fun _=>?_⟩;simp only[mrg,ra,j,c,if_false,if_true];simp only[mrg,j,if_true];simp only[if_neg (fun e:k=a=>c e.symm),if_true];omega;rw[List.getElem?_set_ne (fun e=>f e.symm)];obtain⟨u,l,m,t,v,w⟩:=h.up k d;refine⟨u,l,m,?_,?_,fun hu=>?_⟩;simp only[mrg,t];rw[v];unfold mrg;split
 rename_i hr
 constructor;intro e;omega;intro e;subst e;omega;rfl;have r:k≠a:=fun e=>hu (v.2 (by rw[e];exact ra));have:=w hu;simp only[if_neg r];split
 rename_i e
 subst e;omega;exact this;have:=h.rp k d;unfold mrg;by_cases hr:rep k=b;simp only[hr,if_true,ra,c,if_false];exact⟨o,trivial⟩;simp only[hr,if_false,this.2];exact⟨this.1,trivial⟩;have l:=h.bd k d;have m:=h.bd b hb;have t:=h.bd a o;split<;>omega
 have:=qjE (p:=fun k=>rep k==k) (q:=fun k=>mrg rep a b k==k) (b:=b) n hb (by simpa using j) (by simp[mrg,j,c]) fun k d f=>?_;have:=h.rc;omega;unfold mrg;split
 rename_i hr
 have l:(a==k)=false:=by
  simp only[beq_eq_false_iff_ne,ne_eq];intro e;subst e;omega
 have m:(rep k==k)=false:=by
  simp only[beq_eq_false_iff_ne,ne_eq];omega
 rw[l,m];rfl
theorem Gr.merge{F:Int}{N:List qt}{V S L m n:List (Int×Int)}{rep:Nat→Nat}{a b:Nat}(h:Gr F N V S L rep)(ra:rep a=a)(z:rep b=b)(d:a≠b)(w:a<N.length)
 (o:m=S∧(zk S (b:Int)=none∨∃k,zk S (a:Int)=some k)∨∃k,zk S (b:Int)=some k∧m=yo S (a:Int) k)
 (p:n=L∧(zk L (b:Int)=none∨∃k,zk L (a:Int)=some k)∨∃k,zk L (b:Int)=some k∧n=yo L (a:Int) k):Gr F N V m n (mrg rep a b):=by
 refine⟨h.nd,h.vk,h.vv,?_,?_,?_,?_,?_⟩
 · rcases o with⟨rfl,_⟩|⟨k,_,rfl⟩
   · exact h.sk
   · exact qiw a k h.sk w (jf _)
 · intro r k f
   rcases o with⟨rfl,_⟩|⟨A,g,rfl⟩
   · exact h.sv r k f
   · rw[qa1]at f
     split at f
     · cases f
       exact h.sv _ _ g
     · exact h.sv r k f
 · rcases p with⟨rfl,_⟩|⟨k,_,rfl⟩
   · exact h.lk
   · exact qiw a k h.lk w (jf _)
 · intro r v hr c
   obtain⟨g,x⟩:=que ra d hr;have l:∀v,zk L (r:Int)=some v→∃j:Nat,zk V v=some (j:Int)∧mrg rep a b j=r:=fun v c=>by
    obtain⟨j,q,B⟩:=h.lv r v g c;exact⟨j,q,by simp only[mrg,B,x,if_false]⟩
   rcases p with⟨rfl,_⟩|⟨A,q,rfl⟩
   · exact l v c
   · rw[qa1]at c
     split at c
     · rename_i e
       cases c;obtain⟨j,C,E⟩:=h.lv b _ z q;exact⟨j,C,by simp only[mrg,E,if_true];omega⟩
     · exact l v c
 · intro r hr t hs
   obtain⟨g,x⟩:=que ra d t;have u:zk S (r:Int)=none:=by
    rcases o with⟨rfl,_⟩|⟨k,_,rfl⟩
    exact hs;rw[qa1]at hs;split at hs
    cases hs;exact hs
   obtain⟨v,c⟩:=h.sl r hr g u;rcases p with⟨rfl,_⟩|⟨k,_,rfl⟩
   · exact⟨v,c⟩
   · rw[qa1]
     split
     · exact⟨_,rfl⟩
     · exact⟨v,c⟩
theorem qhB{α:Type}{o:Option α}{d:α}(h:o.isSome=true):o=some (o.getD d):=by
 cases o with
 |none=>cases h
 |some x=>rfl
theorem qlX{α:Type}{o:Option α}(h:o.isSome=false):o=none:=by
 cases o with
 |none=>rfl
 |some x=>cases h
theorem qAc{n M a b:Nat}{F:Int}{N:List qt}{U:List Int}{V S L:List (Int×Int)}{w:List (Int×qk)}{rep x:Nat→Nat}(h:Uf n U rep x M)(g:Gr F N V S L rep)(hn:N.length=n)(m:n<9223372036854775807)(p:a<n)(hb:b<n)(ra:rep a=a)(q:rep b=b)(e:a≠b):Yl (q9 (a:Int) (b:Int) N U V S L w) fun r=>r.1=N∧∃c,Uf n r.2.1 (mrg rep a b) c (M+1)∧Gr F N V r.2.2.1 r.2.2.2 (mrg rep a b):=by
 unfold q9;subst hn;obtain⟨u,f,_⟩:=h.up b hb;refine Yl.getN f ?_;rw[qhk (by rw[h.len];exact hb)];have z:=h.merge p hb ra q e;have fin:∀j l,(j=S∧(zk S (b:Int)=none∨∃k,zk S (a:Int)=some k)∨∃k,zk S (b:Int)=some k∧j=yo S (a:Int) k)→(l=L∧(zk L (b:Int)=none∨∃k,zk L (a:Int)=some k)∨∃k,zk L (b:Int)=some k∧l=yo L (a:Int) k)→Yl (some (N,U.set b (a:Int),j,l)) fun r=>r.1=N∧∃c,Uf N.length r.2.1 (mrg rep a b) c (M+1)∧Gr F N V r.2.2.1 r.2.2.2 (mrg rep a b):=fun j l A B=>.ret ⟨rfl,_,z,g.merge ra q e p A B⟩;refine Yl.ite (fun f=>Yl.ite (fun t=>Yl.mputB g.sk m ?_) fun t=>?_) fun f=>?_<;>refine Yl.ite (fun o=>Yl.ite (fun v=>Yl.mputB g.lk m ?_) fun v=>Yl.ite (fun C=>Yl.mputB g.lk m ?_) fun C=>?_) fun o=>?_<;>refine fin _ _ ?_ ?_<;>first
  |exact .inr ⟨_,qhB f,rfl⟩
  |exact .inl ⟨rfl,.inr ⟨_,qhB (d:=0) (by simpa using t)⟩⟩
  |exact .inl ⟨rfl,.inl (qlX f)⟩
  |exact .inr ⟨_,qhB o,rfl⟩
  |exact .inl ⟨rfl,.inr ⟨_,qhB (d:=0) (by simpa using v)⟩⟩
  |exact .inl ⟨rfl,.inl (qlX o)⟩
def UG(F:Int)(N:List qt)(U:List Int)(V S L:List (Int×Int)):Prop:=∃rep a M,Uf N.length U rep a M∧Gr F N V S L rep
def zaD(f:Nat→Nat)(n x:Nat):Nat→Nat:=fun k=>if k=n then x else f k
theorem Uf.grow{n:Nat}{U:List Int}{rep d:Nat→Nat}{M:Nat}(h:Uf n U rep d M):Uf (n+1) (U++[(n:Int)]) (zaD rep n n) (zaD d n 0) M:=by
 have hl:=h.len;refine⟨by simp[hl],fun k c=>?_,fun k c=>?_,fun k c=>?_,?_⟩;by_cases a:k=n;subst a;exact⟨k,by rw[vP oa];simp[hl],c,rfl,by simp[zaD],fun e=>absurd rfl e⟩;obtain⟨u,f,m,g,j,l⟩:=h.up k oa;have b:u≠n:=by omega
 exact⟨u,by rw[j3 oa];exact f,by omega,by simp only[zaD,a,b,if_false,g],by simp only[zaD,a,if_false,j],by simpa only[zaD,a,b,if_false]using l⟩;by_cases a:k=n;subst a;simp[zaD];have:=h.rp k oa;have hr:rep k≠n:=by omega
 simp only[zaD,a,hr,if_false,this.2];exact⟨by omega,trivial⟩;by_cases a:k=n;subst a;simp[zaD];simpa only[zaD,a,if_false]using h.bd k oa;have:zaI (fun k=>zaD rep n n k==k) n=zaI (fun k=>rep k==k) n:=qjV n fun k c=>by
  have:k≠n:=by omega
  simp only[zaD,this,if_false]
 have:=h.rc;unfold zaI;simp only[zaD,if_true,beq_self_eq_true,cond_true]at*;omega
theorem qnd{β:Type}:∀(m:List (Int×β))(x:Int)(d e:β),yo (yo m x d) x e=yo m x e
 |[],x,d,e=>by simp[yo]
 |(y,c)::m,x,d,e=>by
  unfold yo;by_cases h:y=x;simp[h,yo];simp only[h,if_false,yo,qnd m x d e]
theorem qtT{n n':Nat}{l:List Int}(hn:n≤n')(h:∀x∈l,∃j:Nat,x=(j:Int)∧j<n):∀x∈l,∃j:Nat,x=(j:Int)∧j<n':=fun x a=>by
 obtain⟨j,b,c⟩:=h x a;exact⟨j,b,by omega⟩
def NdOk(n:Nat)(q:qt):Prop:=zJ q.f0_term=true∧q.f1_args.length=q.f0_term.ar.length∧∀x∈q.f1_args,∃j:Nat,x=(j:Int)∧j<n
theorem qw5{N:List qt}{q:qt}(h:∀(k:Nat)(q:qt),N[k]? =some q→NdOk N.length q)(hq:NdOk N.length q)(k:Nat)(r:qt)(a:(N++[q])[k]? =some r):NdOk (N++[q]).length r:=by
 have hn:N.length≤(N++[q]).length:=by simp
 rw[List.getElem?_append]at a;split at a
 obtain⟨b,c,d⟩:=h k r a;exact⟨b,c,qtT hn d⟩;have:r=q:=by
  have:=List.mem_of_getElem? a;simpa using this
 subst this;exact⟨hq.1,hq.2.1,qtT hn hq.2.2⟩
theorem Gr.growV{F:Int}{N:List qt}{V S L:List (Int×Int)}{rep:Nat→Nat}(h:Gr F N V S L rep)(hr:∀k,k<N.length→rep k<N.length){q:qt}{v:Int}(hq:NdOk N.length q)(l:0≤v∧v≤1048576∧v<F)(o:zk V v=none):Gr F (N++[q]) (yo V v (N.length:Int)) S (yo L (N.length:Int) v) (zaD rep N.length N.length):=by
 have hn:N.length≤(N++[q]).length:=by simp
 have t:(N++[q]).length=N.length+1:=by simp
 refine⟨qw5 h.nd hq,qpb _ _ h.vk,fun w k d=>?_,⟨h.sk.1,qtT hn h.sk.2⟩,fun r k d=>?_,qiw _ _ h.lk oa hn,fun r w a hw=>?_,fun r hl a hs=>?_⟩;rw[qa1]at d;split at d
 rename_i e
 subst e;cases d;exact⟨l.1,l.2.1,l.2.2,_,rfl,by omega⟩;obtain⟨c,f,g,j,n,x⟩:=h.vv w k d;exact⟨c,f,g,j,n,by omega⟩;obtain⟨j,p,c,f,g⟩:=h.sv r k d;exact⟨j,p,c,by rw[j3 (jd.1 f).1];exact f,g⟩;rw[qa1]at hw;by_cases b:r=N.length;subst b;simp only[if_true]at hw;cases hw;exact⟨_,by rw[qa1,if_pos rfl],by simp[zaD]⟩;rw[if_neg oa]at hw;simp only[zaD,b,if_false]at a;obtain⟨j,c,f⟩:=h.lv r w a hw;obtain⟨_,_,_,u,g,n⟩:=h.vv _ _ c;have m:j=u:=by omega
 subst m;refine⟨j,?_,?_⟩;rw[qa1,if_neg];exact c;intro e;subst e;rw[o]at c;cases c;have:j≠N.length:=by omega
 simp only[zaD,this,if_false,f];rw[qa1];by_cases b:r=N.length;subst b;exact⟨v,by simp⟩;rw[if_neg oa];simp only[zaD,b,if_false]at a;exact h.sl r oa a hs
theorem Gr.growS{F:Int}{N:List qt}{V S L:List (Int×Int)}{rep:Nat→Nat}(h:Gr F N V S L rep)(hl:∀x∈zF L,∃j:Nat,x=(j:Int)∧j<N.length){q:qt}(hq:NdOk N.length q)(c:q.f0_term.k≠1):Gr F (N++[q]) V (yo S (N.length:Int) (N.length:Int)) L (zaD rep N.length N.length):=by
 have hn:N.length≤(N++[q]).length:=by simp
 have m:(N++[q]).length=N.length+1:=by simp
 refine⟨qw5 h.nd hq,h.vk,fun w k c=>?_,qiw _ _ h.sk oa hn,fun r k c=>?_,⟨h.lk.1,qtT hn h.lk.2⟩,fun r w a hw=>?_,fun r hl a hs=>?_⟩;obtain⟨d,f,g,j,l,n⟩:=h.vv w k c;exact⟨d,f,g,j,l,by omega⟩;rw[qa1]at c;split at c
 cases c;exact⟨N.length,q,rfl,by simp,by assumption⟩;obtain⟨j,p,d,f,g⟩:=h.sv r k c;exact⟨j,p,d,by rw[j3 (jd.1 f).1];exact f,g⟩;have b:r≠N.length:=fun e=>by
  obtain⟨j,d,f⟩:=hl _ (qtL hw);omega
 simp only[zaD,b,if_false]at a;obtain⟨j,d,f⟩:=h.lv r w a hw;obtain⟨_,_,_,o,g,l⟩:=h.vv _ _ d;have:j≠N.length:=by omega
 exact⟨j,d,by simp only[zaD,this,if_false,f]⟩;rw[qa1]at hs;by_cases b:r=N.length;subst b;simp at hs;rw[if_neg oa]at hs;simp only[zaD,b,if_false]at a;exact h.sl r oa a hs
theorem qhU{l:List T}(h:zQ l=true):∀t∈l,zJ t=true:=by
 induction l with
 |nil=>exact fun t a=>by cases a
 |cons x l b=>
  simp only[zQ,jk]at h;intro t a;rcases jx.1 a with rfl|a
  exact h.1;exact b h.2 t a
theorem qfZ{l:List T}{w:Int}:w∈zy l↔∃t∈l,w∈zX t:=by
 induction l with
 |nil=>simp[zy]
 |cons x l a=>simp[zy,a]
theorem qqi{t:T}(h:zJ t=true)(b:t.k≠1):t.ar.length≤6∧(∀q∈t.ar,zJ q=true)∧∀q∈t.ar,∀w∈zX q,w∈zX t:=by
 by_cases c:t.k=0;rw[qmb c]at h;have h:=of_decide_eq_true h;have:t.ar=[]:=jG h.2.2.2;rw[this];exact⟨by simp,fun q hq=>(by cases hq),fun q hq=>(by cases hq)⟩;by_cases a:t.k=2;rw[qkE a]at h;simp only[yL,jk,Jq,decide_eq_true_eq]at h;refine⟨?_,qhU h.2,fun q hq w hw=>?_⟩;rcases h.1.2 with h|h<;>omega
 rw[qfR b,T.used,if_pos a];exact qfZ.2 ⟨q,hq,hw⟩;rw[qlV c b a]at h;cases h
theorem quD{t:T}(h:zJ t=true)(a:t.k=1):t.ar=[]∧0≤t.i∧t.i≤1048576:=by
 rw[ql7 a]at h;have h:=of_decide_eq_true h;exact⟨jG h.2.2.2,h.1,h.2.1⟩
theorem qpD{l:List T}{j:Nat}{q:T}(h:l[j]? =some q):wtL (l.take (j+1))=wtL (l.take j)+wt q:=by
 rw[jI,h,qkL];simp[wtL]
theorem qkc(l:List T)(j:Nat):wtL (l.take j)≤wtL l:=by
 conv=>rhs;rw[←j7 j l,qkL]
 omega
theorem qks(l:List T):l.length≤wtL l:=by
 induction l with
 |nil=>exact jf _
 |cons x l a=>
  have:=qd4 x;unfold wtL;rw[jg];omega
theorem qzW{F:Int}:∀(fuel:Nat)(t:T)(N:List qt)(U:List Int)(V S L:List (Int×Int))(A:List (Int×qk)),wt t<fuel→zJ t=true→(∀w∈zX t,w<F)→N.length+wt t≤1000000000→UG F N U V S L→Yl (qaY fuel t N U V S L A) fun r=>UG F r.2.1 r.2.2.1 r.2.2.2.1 r.2.2.2.2.1 r.2.2.2.2.2.1∧r.2.2.2.2.2.2=A∧(∃j:Nat,r.1=(j:Int)∧j<r.2.1.length)∧N.length≤r.2.1.length∧r.2.1.length≤N.length+wt t
 |0,t,_,_,_,_,_,_,h,_,_,_,_=>absurd h oa
 |fuel+1,t,N,U,V,S,L,A,hw,B,R,hn,E=>by
  unfold qaY;dsimp only;have hwt:=qd4 t;refine Yl.ite (fun b=>Yl.ite (fun hm=>?_) fun hm=>?_) fun b=>?_;have hm:=qhB (d:=(0:Int)) hm;obtain⟨rep,G,M,e,a⟩:=E;obtain⟨_,_,_,j,h4,h5⟩:=a.vv _ _ hm;exact .ret ⟨⟨rep,G,M,e,a⟩,rfl,⟨j,h4,h5⟩,jf _,by dsimp only;omega⟩;have b:t.k=1:=by simpa using b
  obtain⟨o,hi,H⟩:=quD B b;have hF:=R t.i (by rw[qjQ b];simp);rw[o,forL];dsimp only;obtain⟨rep,G,M,e,a⟩:=E;refine Yl.bind (Yl.appO oe (Yl.bind (Yl.appO (by simp[e.len];omega) ?_)));have hVl:V.length≤1048577:=by
   have:=qg7 (n:=1048577) a.vk fun x c=>by
    obtain⟨d,hd⟩:=qm1 c;obtain⟨h1,h2,_⟩:=a.vv _ _ hd;exact⟨x.toNat,by omega,by omega⟩
   unfold zF at this
   rwa [jh]at this
  refine Yl.bind (Yl.mputO oa (Yl.bind (Yl.mputO ?_ ?_)));have:=qld V t.i ((zk V t.i).getD 0);omega;have f:N.length<9223372036854775807:=by omega
  refine Yl.mputB a.lk f (Yl.mputB (qiw (n':=N.length+1) _ _ a.lk oa oa) oa ?_);rw[qnd,qnd];refine .ret ⟨⟨_,_,M,by rw[ja];exact e.grow,a.growV (fun k b=>(e.rp k b).1) ⟨B,by simp[o],fun x c=>(by cases c)⟩ ⟨hi,H,hF⟩ (qlX hm)⟩,rfl,⟨N.length,rfl,by simp⟩,by simp,by simp;omega⟩;have b:t.k≠1:=by simpa using b
  obtain⟨h6,J,K⟩:=qqi B b;refine Yl.forL (I:=fun i s=>s.2.2.2.2.2.2.1=t∧UG F s.1 s.2.1 s.2.2.1 s.2.2.2.1 s.2.2.2.2.1∧s.2.2.2.2.2.1=A∧s.2.2.2.2.2.2.2.length=i∧(∀x∈s.2.2.2.2.2.2.2,∃j:Nat,x=(j:Int)∧j<s.1.length)∧N.length≤s.1.length∧s.1.length≤N.length+wtL (t.ar.take i)) t.ar 0 _ ⟨rfl,E,rfl,rfl,fun x c=>(by cases c),jf _,by simp[wtL]⟩ (fun j q s nx O P p=>?_) fun s P=>?_;obtain⟨C,W,X,Y,Z,K1,t1,a1⟩:=s;obtain⟨u,v,hK,g,z,Q,m⟩:=P;dsimp only at u hK v g z Q m⊢;subst u;subst hK;have l:=List.mem_of_getElem? O;have w1:=qdT l;have w2:=qpD O;have w3:=qkc t1.ar (j+1);simp only[jc]at g m p;refine Yl.bind (Yl.bind ((qzW fuel q C W X Y Z K1 oa (J q l) (fun w hw=>R w (K q l w hw)) oa v).to fun r h=>?_));obtain⟨e1,e2,⟨i,e3,e4⟩,e5,e6⟩:=h;have hj':=(jd.1 O).1;refine Yl.bind (Yl.appO (by simp only[jg,ji];omega) (Yl.ret (p _ ⟨rfl,e1,e2,by simp[g],fun x c=>?_,?_,?_⟩)));rcases jl.1 c with c|c
  obtain⟨i',f1,f2⟩:=z x c;exact⟨i',f1,by dsimp only;omega⟩;exact⟨i,by rw[jr.1 c];exact e3,e4⟩;dsimp only;omega;dsimp only;omega;obtain⟨C,W,X,Y,Z,K1,t1,a1⟩:=s;obtain⟨u,v,hK,g,z,Q,m⟩:=P;dsimp only at u hK v g z Q m⊢;subst u;subst hK;rw[jc]at g m;rw[jF]at m;obtain⟨rep,G,M,e,a⟩:=v;have f:C.length<9223372036854775807:=by omega
  refine Yl.bind (Yl.appO (by simp only[jg,ji];omega) (Yl.bind (Yl.appO (by simp only[jg,ji,e.len];omega) (Yl.mputB a.sk f ?_))));refine .ret ⟨⟨_,_,M,by rw[ja];exact e.grow,a.growS a.lk.2 ⟨B,g,z⟩ b⟩,rfl,⟨C.length,rfl,by simp⟩,by simp;omega,by simp;omega⟩
def rts(U:List Int):Nat:=zaI (fun k=>U[k]? ==some (k:Int)) U.length
theorem Uf.rts{n:Nat}{U:List Int}{rep b:Nat→Nat}{M:Nat}(h:Uf n U rep b M):rts U=zaI (fun k=>rep k==k) n:=by
 unfold Go.Proofs.YtgcegilpajfdhaaGreat.rts;rw[h.len];refine qjV n fun k c=>?_;obtain⟨u,d,_,_,a,_⟩:=h.up k c;rw[d];by_cases e:u=k;have:=a.1 e;simp[e,this];have f:(rep k==k)=false:=by simpa using fun h=>e (a.2 h)
 have g:(some (u:Int)==some (k:Int))=false:=by
  simp only[beq_eq_false_iff_ne,ne_eq,Option.some.injEq];omega
 rw[f,g]
theorem qAI{i k:Nat}{N:List qt}{U:List Int}{V S L:List (Int×Int)}{c:List (Int×qk)}{a b:qt}(d:N[i]? =some a)(e:N[k]? =some b):Yl (qa8 (i:Int) (k:Int) N U V S L c) fun r=>r=true→a.f0_term.ar.length=b.f0_term.ar.length:=by
 unfold qa8;refine Yl.bind (Yl.getN d (Yl.getN e (Yl.ret ?_)));refine Yl.ite (fun _=>Yl.ite (fun _=>Yl.ite (fun _=>.ret fun h=>?_) fun _=>.ret fun h=>by cases h) fun _=>.ret fun h=>by cases h) fun _=>.ret fun h=>by cases h
 have:(a.f0_term.ar.length:Int)=(b.f0_term.ar.length:Int):=by simpa using h
 omega
def PrOk(n:Nat)(l:List (Int×Int)):Prop:=∀x∈l,(∃j:Nat,x.1=(j:Int)∧j<n)∧∃j:Nat,x.2=(j:Int)∧j<n
theorem qBQ{F:Int}{fuel:Nat}{N:List qt}{U:List Int}{V S L:List (Int×Int)}{J:List (Int×qk)}{l:List (Int×Int)}(hG:UG F N U V S L)(hl:PrOk N.length l)(P:l.length≤1)(hn:N.length≤1000000000)(hf:7*N.length+10<fuel):Yl (qbo fuel l N U V S L J) fun r=>r.1=true→r.2.1=N∧UG F N r.2.2.1 V r.2.2.2.2.1 r.2.2.2.2.2.1∧r.2.2.2.1=V∧r.2.2.2.2.2.2=J:=by
 unfold qbo;obtain⟨rep,o,M,f,g⟩:=hG;have Q:=qqb (fun k=>rep k==k) N.length;refine Yl.forF (I:=fun s=>s.2.1=N∧PrOk N.length s.1∧(∃rep o M,Uf N.length s.2.2.1 rep o M∧Gr F N V s.2.2.2.1 s.2.2.2.2 rep)∧s.1.length+7*rts s.2.2.1≤1+7*N.length) (μ:=fun s=>s.1.length+7*rts s.2.2.1) ?_ fuel _ ⟨rfl,hl,⟨rep,o,M,f,g⟩,by dsimp only;rw[f.rts];omega⟩ (by dsimp only;rw[f.rts];omega);clear f g hl P Q rep o M;rintro⟨l,N',U,S,L⟩ nx ⟨hN,hl,⟨rep,o,M,f,g⟩,Q⟩ IH;dsimp only at hN hl f g Q⊢;subst N';refine Yl.ite (fun h0=>?_) fun _=>.ret fun _=>⟨rfl,⟨rep,o,M,f,g⟩,rfl,rfl⟩
 have h0:0<l.length:=by
  have:=of_decide_eq_true h0;omega
 obtain⟨m,hm⟩:∃m,l.length=m+1:=⟨l.length-1,by omega⟩
 have hw:wr ((l.length:Int)-1)=(m:Int):=by
  rw[qex oa];omega
 rw[hw];have hq:l[m]? =some l[m]:=jj oa;obtain⟨⟨i,hi,E⟩,j,hj,G⟩:=hl _ (List.mem_of_getElem? hq);refine Yl.bind (Yl.getN hq ?_);rw[hi,hj];refine Yl.bind ((qo5 f E oa).to fun r1 R=>?_);obtain⟨e1,e2,W⟩:=R;refine Yl.bind ((qo5 W G oa).to fun X Y=>?_);obtain⟨e3,C,t⟩:=Y;have C:=C.trans e2;refine Yl.ret (Yl.bind (Yl.subO ⟨by omega,by omega,by omega⟩ ?_));dsimp only;rw[jO,Je,vJ,e1,e3];have hr:rts X.2.2=rts U:=by rw[t.rts,f.rts]
 have K:PrOk N.length (l.take m):=fun x u=>hl x (j9 u);have Z:(l.take m).length=m:=by rw[jA];omega
 obtain⟨ga,ra⟩:=f.rp i E;obtain⟨gb,rb⟩:=f.rp j G;refine Yl.ite (fun he=>?_) fun he=>?_;exact IH _ ⟨C,K,⟨rep,o,M,t,g⟩,by dsimp only;omega⟩ (by dsimp only;omega);have v:rep i≠rep j:=by
  intro e;rw[e]at he;simp at he
 have c:∀l':List (Int×Int),PrOk N.length l'→l'.length≤m+6→Yl ((q9 (rep i:Int) (rep j:Int) X.2.1 X.2.2 V S L J).bind fun r=>nx (l',r.1,r.2.1,r.2.2.1,r.2.2.2)) fun r=>r.1=true→r.2.1=N∧UG F N r.2.2.1 V r.2.2.2.2.1 r.2.2.2.2.2.1∧r.2.2.2.1=V∧r.2.2.2.2.2.2=J:=fun l' hl1 hl2=>by
  rw[C];refine Yl.bind ((qAc t g rfl oa ga gb ra rb v).to fun r h=>?_);obtain⟨f1,rk',f2,f3⟩:=h;have hd:=qjE (p:=fun k=>rep k==k) (q:=fun k=>mrg rep (rep i) (rep j) k==k) (b:=rep j) N.length gb (by simpa using rb) (by simp[mrg,rb,v]) fun k hk hkb=>by
   by_cases n:rep k=rep j;have R:(mrg rep (rep i) (rep j) k==k)=false:=by
    simp only[mrg,n,if_true,beq_eq_false_iff_ne,ne_eq];intro e;rw[←e,ra]at n;exact v n
   have Y:(rep k==k)=false:=by
    simp only[beq_eq_false_iff_ne,ne_eq];omega
   rw[R,Y];simp only[mrg,n,if_false]
  have hr2:rts r.2.1+1=rts U:=by
   rw[f2.rts,f.rts,hd]
  exact IH _ ⟨f1,hl1,⟨_,_,_,f2,f3⟩,by dsimp only;omega⟩ (by dsimp only;omega)
 refine Yl.ite (fun hs=>Yl.ite (fun O=>?_) fun O=>c _ K oa) fun hs=>c _ K oa;have hs:=qhB (d:=(0:Int)) hs;have O:=qhB (d:=(0:Int)) O;obtain⟨a,qa,hea,w,hka⟩:=g.sv _ _ hs;obtain⟨b,qb,heb,z,hkb⟩:=g.sv _ _ O;rw[hea,heb,C];refine Yl.bind ((qAI w z).to fun r hr=>?_);refine Yl.ite (fun _=>.ret fun h=>by cases h) fun A=>?_;have A:r=true:=by simpa using A
 have hlen:=hr A;refine Yl.getN w ?_;obtain⟨fa,la,xa⟩:=g.nd _ _ w;obtain⟨fb,lb,xb⟩:=g.nd _ _ z;obtain⟨h6,_,_⟩:=qqi fa hka;refine Yl.forL (I:=fun i l'=>PrOk N.length l'∧l'.length=m+i) qa.f1_args 0 _ ⟨K,Z⟩ (fun i q s nx' hi B H=>?_) fun l' B=>?_;rw[jc]at B H⊢;have hi2:=(jd.1 hi).1;refine Yl.getN z (Yl.getN (jj oa) (Yl.bind (Yl.ret (Yl.bind (Yl.appO (by simp only[jg,ji,B.2];omega) (H _ ⟨fun x u=>?_,by simp[B.2];omega⟩))))));rcases jl.1 u with u|u
 exact B.1 x u;rw[jr.1 u];exact⟨xa _ (List.mem_of_getElem? hi),xb _ (JJ _)⟩;rw[jc]at B;have:=c l' B.1 oa;rw[C]at this;exact this
theorem Al2.imp{α β:Type}{R a:α→β→Prop}{l:List α}{m:List β}(h:Al2 R l m)(k:∀q x,R q x→a q x):Al2 a l m:=⟨h.1,fun i q x b c=>k q x (h.2 i q x b c)⟩
theorem Al2.snoc{α β:Type}{R:α→β→Prop}{l:List α}{m:List β}{i:Nat}{q:α}{x:β}(h:Al2 R (l.take i) m)(hq:l[i]? =some q)(d:R q x):Al2 R (l.take (i+1)) (m++[x]):=by
 have hi:=(jd.1 hq).1;have hl:(l.take i).length=i:=by rw[jA];omega
 have hm:=h.1;refine⟨by rw[ja,jA,JX];omega,fun j p y a b=>?_⟩;by_cases e:j<i;refine h.2 j p y ?_ ?_;rw[jZ,if_pos oa]at a⊢;exact a
 rwa [j3 oa]at b
 have c:=(jd.1 a).1;rw[jA]at c;have:j=i:=by omega
 subst this;rw[jZ,if_pos oa,hq]at a;cases a;rw[vP oa,hm,hl,Nat.sub_self]at b;cases b;exact d
theorem Al2.nil{α β:Type}{R:α→β→Prop}:Al2 R ([]:List α) ([]:List β):=⟨rfl,fun i q x h=>by simp at h⟩
theorem Al2.mem{α β:Type}{R:α→β→Prop}{l:List α}{m:List β}(h:Al2 R l m){x:β}(a:x∈m):∃q∈l,R q x:=by
 obtain⟨i,hi,rfl⟩:=List.getElem_of_mem a;have b:=h.1;exact⟨l[i]'(by omega),JJ _,h.2 i _ _ (jj oa) (jj hi)⟩
def stM(m c:qk):qk:=⟨zav (wr (m.f0_size+c.f0_size)) 201,zav (zap m.f1_depth (wr (c.f1_depth+1))) 21⟩
def foM(l:List qk):qk:=l.foldl stM ⟨1,1⟩
def zaS(m:qk):Prop:=(1≤m.f0_size∧m.f0_size≤201)∧1≤m.f1_depth∧m.f1_depth≤21
theorem qwC{m c:qk}(hm:zaS m)(a:zaS c):(stM m c).f0_size=min (m.f0_size+c.f0_size) 201∧(stM m c).f1_depth=min (max m.f1_depth (c.f1_depth+1)) 21:=by
 obtain⟨⟨b,d⟩,a3,a4⟩:=hm;obtain⟨⟨e,f⟩,g,h⟩:=a;unfold stM;rw[qt5,qt5,qt2,qex oa,qex oa];exact⟨rfl,rfl⟩
theorem quM{m c:qk}(hm:zaS m)(a:zaS c):zaS (stM m c):=by
 obtain⟨b,d⟩:=qwC hm a;obtain⟨⟨e,f⟩,a3,a4⟩:=hm;obtain⟨⟨g,h⟩,j,l⟩:=a;unfold zaS;rw[b,d];omega
theorem qus:zaS ⟨1,1⟩:=⟨⟨by decide,by decide⟩,by decide,by decide⟩
theorem qxx:∀(l:List qk)(m:qk),zaS m→(∀c∈l,zaS c)→zaS (l.foldl stM m)
 |[],_,h,_=>h
 |c::l,m,h,hl=>qxx l (stM m c) (quM h (hl c (je ..))) fun x a=>hl x (jp _ a)
theorem qs4:∀(l:List qk)(m:qk),zaS m→(∀c∈l,zaS c)→(l.foldl stM m).f0_size≤200→(l.foldl stM m).f1_depth≤20→m.f0_size≤(l.foldl stM m).f0_size∧m.f1_depth≤(l.foldl stM m).f1_depth∧∀c∈l,c.f0_size≤200∧c.f1_depth+1≤(l.foldl stM m).f1_depth
 |[],_,_,_,_,_=>⟨vf _,vf _,fun c a=>by cases a⟩
 |c::l,m,h,hl,d,e=>by
  have a:=hl c (je ..);rw[vj]at d e⊢;obtain⟨g,j,f⟩:=qs4 l (stM m c) (quM h a) (fun x b=>hl x (jp _ b)) d e;obtain⟨n,o⟩:=qwC h a;obtain⟨⟨p,q⟩,a3,a4⟩:=h;obtain⟨⟨r,t⟩,u,v⟩:=a;refine⟨by omega,by omega,fun x b=>?_⟩;rcases jx.1 b with rfl|b
  exact⟨by omega,by omega⟩;exact f x b
theorem qzo:∀(l:List qk)(a:List T)(m:qk),Al2 (fun c t=>(z8 t:Int)=c.f0_size∧(yi t:Int)=c.f1_depth) l a→zaS m→(∀c∈l,zaS c)→(l.foldl stM m).f0_size≤200→(l.foldl stM m).f1_depth≤20→(l.foldl stM m).f0_size=m.f0_size+(zC a:Int)∧(l.foldl stM m).f1_depth=max m.f1_depth ((zI a:Int)+1)
 |[],a,m,h,hm,_,_,_=>by
  have:a=[]:=jG h.1;subst this;have:=hm.2.1;simp only[List.foldl_nil,zC,zI];omega
 |c::l,[],_,h,_,_,_,_=>absurd h.1 og
 |c::l,t::a,m,h,hm,hl,b,d=>by
  have f:=hl c (je ..);obtain⟨t1,t2⟩:=h.2 0 c t rfl rfl;rw[vj]at b d⊢;have e:∀x∈l,zaS x:=fun x g=>hl x (jp _ g);obtain⟨j,n⟩:=qzo l a (stM m c) ⟨by simpa using h.1,fun i q x b d=>h.2 (i+1) q x (by simpa using b) (by simpa using d)⟩ (quM hm f) e b d;obtain⟨o,p,_⟩:=qs4 l (stM m c) (quM hm f) e b d;obtain⟨r,u⟩:=qwC hm f;simp only[zC,zI];omega
def KnR(a:List (Int×qk))(rep:Nat→Nat)(x:Int)(c:qk):Prop:=∃j:Nat,x=(j:Int)∧zk a (rep j:Int)=some c
structure zb4(N:List qt)(S:List (Int×Int))(rep:Nat→Nat)(Kn:List (Int×qk)):Prop where
 k:(zF Kn).Nodup∧∀x∈zF Kn,∃j:Nat,x=(j:Int)∧j<N.length
 v:∀x m,zk Kn x=some m→zaS m
 n:∀(r:Nat) m,zk Kn (r:Int)=some m→zk S (r:Int)=none→m=⟨1,1⟩
 s:∀(r:Nat) m,zk Kn (r:Int)=some m→∀(k:Nat) q,zk S (r:Int)=some (k:Int)→N[k]? =some q→∃ms,Al2 (KnR Kn rep) q.f1_args ms∧m=foM ms
def zct(b a:List (Int×qk)):Prop:=∀x m,zk b x=some m→zk a x=some m
theorem KnR.le{b a:List (Int×qk)}{rep:Nat→Nat}(h:zct b a){x:Int}{c:qk}(k:KnR b rep x c):KnR a rep x c:=by
 obtain⟨j,d,e⟩:=k;exact⟨j,d,h _ _ e⟩
theorem zct.put{a:List (Int×qk)}{r:Int}{m:qk}(h:zk a r=none):zct a (yo a r m):=fun x c b=>by
 rw[qa1,if_neg];exact b;intro e;subst e;rw[h]at b;cases b
theorem zb4.put{N:List qt}{S:List (Int×Int)}{rep:Nat→Nat}{d:List (Int×qk)}(h:zb4 N S rep d){r:Nat}{m:qk}(hr:r<N.length)(l:zk d (r:Int)=none)(hm:zaS m)(hn:zk S (r:Int)=none→m=⟨1,1⟩)(hs:∀(k:Nat) q,zk S (r:Int)=some (k:Int)→N[k]? =some q→∃ms,Al2 (KnR d rep) q.f1_args ms∧m=foM ms):zb4 N S rep (yo d (r:Int) m):=by
 have hle:=zct.put (m:=m) l;refine⟨qiw _ _ h.k hr (jf _),fun x c a=>?_,fun b c a=>?_,fun b c a k q j hq=>?_⟩<;>rw[qa1]at a<;>split at a
 cases a;exact hm;exact h.v x c a;rename_i e
 have:r=b:=by omega
 subst this;cases a;exact hn;exact h.n b c a;rename_i e
 have:r=b:=by omega
 subst this;cases a;obtain⟨ms,f,g⟩:=hs k q j hq;exact⟨ms,f.imp fun _ _=>KnR.le hle,g⟩;obtain⟨ms,f,g⟩:=h.s b c a k q j hq;exact⟨ms,f.imp fun _ _=>KnR.le hle,g⟩
theorem qoj{β:Type}:∀{m:List (Int×β)}{x:Int}(d:β),zk m x=none→zbQ (yo m x d) x=m
 |[],x,d,_=>by simp[yo,zbQ]
 |(y,e)::m,x,d,h=>by
  unfold zk at h;split at h
  cases h;rename_i a
  unfold yo;simp only at a;simp only[a,if_false,zbQ,qoj d h]
structure BuOk(n:Nat)(B:List (Int×Bool)):Prop where
 k:(zF B).Nodup∧∀x∈zF B,∃j:Nat,x=(j:Int)∧j<n
 t:∀x b,zk B x=some b→b=true
def freB(B:List (Int×Bool))(n:Nat):Nat:=zaI (fun k=>(zk B (k:Int)).isNone) n
theorem qze{B:List (Int×Bool)}{n r:Nat}(hr:r<n)(h:zk B (r:Int)=none):freB (yo B (r:Int) true) n+1=freB B n:=by
 refine qjE n hr (by simp[h]) (by simp[qa1]) fun k b a=>?_;rw[qa1,if_neg oa]
theorem qoV{F:Int}{n M:Nat}{rep E:Nat→Nat}{N:List qt}{V S L:List (Int×Int)}(G:Gr F N V S L rep)(hn:N.length=n)(X:n≤1000000000):∀(fuel r:Nat)(U:List Int)(m:List (Int×qk))(B:List (Int×Bool)),Uf n U rep E M→zb4 N S rep m→BuOk n B→r<n→rep r=r→n+freB B n<fuel→Yl (qax fuel (r:Int) N U V S L m B) fun x=>x.2.1=true→x.2.2.1=N∧Uf n x.2.2.2.1 rep E M∧x.2.2.2.2.1=V∧x.2.2.2.2.2.1=S∧x.2.2.2.2.2.2.1=L∧zb4 N S rep x.2.2.2.2.2.2.2.1∧zct m x.2.2.2.2.2.2.2.1∧(∀y,(zk B y).isSome=true→zk x.2.2.2.2.2.2.2.1 y=zk m y)∧zk x.2.2.2.2.2.2.2.1 (r:Int)=some x.1∧x.2.2.2.2.2.2.2.2=B
 |0,_,_,_,_,_,_,_,_,_,h=>absurd h oa
 |fuel+1,r,U,m,B,H,hK,A,hr,Y,hf=>by
  unfold qax;dsimp only;refine Yl.ite (fun f=>.ret fun _=>⟨rfl,H,rfl,rfl,rfl,hK,fun _ _ h=>h,fun _ _=>rfl,qhB f,rfl⟩) fun f=>Yl.ite (fun p=>.ret fun h=>by cases h) fun p=>?_;have o:=qlX f;have g:zk B (r:Int)=none:=by
   cases hb:zk B (r:Int)with
   |none=>rfl
   |some b=>
    rw[hb,A.t _ _ hb]at p;cases p
  have Z:=qze hr g;refine Yl.mputB A.k oa ?_;have J:BuOk n (yo B (r:Int) true):=⟨qiw _ _ A.k hr (jf _),fun x b l=>by
   rw[qa1]at l;split at l
   cases l;rfl;exact A.t x b l⟩
  have u:N.length<9223372036854775807:=by omega
  have hold:∀y,(zk B y).isSome=true→y≠(r:Int):=fun y hy e=>by
   rw[e,g]at hy;cases hy
  refine Yl.ite (fun C=>?_) fun C=>?_;obtain⟨k,q,he,hq,hk⟩:=G.sv _ _ (qhB (d:=(0:Int)) C);have a:=qhB (d:=(0:Int)) C;rw[he]at a⊢;refine Yl.getN hq ?_;obtain⟨_,_,xa⟩:=G.nd _ _ hq;refine Yl.forL (I:=fun i s=>s.1=N∧Uf n s.2.1 rep E M∧s.2.2.1=V∧s.2.2.2.1=S∧s.2.2.2.2.1=L∧zb4 N S rep s.2.2.2.2.2.1∧zct m s.2.2.2.2.2.1∧(∀y,(zk (yo B (r:Int) true) y).isSome=true→zk s.2.2.2.2.2.1 y=zk m y)∧s.2.2.2.2.2.2.1=yo B (r:Int) true∧∃ms,Al2 (KnR s.2.2.2.2.2.1 rep) (q.f1_args.take i) ms∧s.2.2.2.2.2.2.2=foM ms) q.f1_args 0 _ ⟨rfl,H,rfl,rfl,rfl,hK,fun _ _ h=>h,fun _ _=>rfl,rfl,[],Al2.nil,rfl⟩ (fun i x s nx hi K w=>?_) fun s K=>?_;obtain⟨N1,U1,V1,S1,L1,O,B1,m1⟩:=s;obtain⟨d1,d2,d3,d4,d5,d6,d7,d8,d9,ms,d10,d11⟩:=K;dsimp only at d1 d2 d3 d4 d5 d6 d7 d8 d9 d10 d11⊢;subst d1 d3 d4 d5 d9;rw[jc]at d10 w;obtain⟨j,rfl,W⟩:=xa x (List.mem_of_getElem? hi);obtain⟨P,Q⟩:=d2.rp j oa;refine Yl.bind ((qo5 d2 oa oa).to fun r1 g1=>?_);obtain⟨e1,e2,e3⟩:=g1;rw[e1,e2];refine Yl.bind ((qoV G hn X fuel (rep j) r1.2.2 O _ e3 d6 J P Q oa).to fun R g2=>?_);refine Yl.ite (fun _=>.ret fun h=>by cases h) fun h4=>?_;obtain⟨f1,f2,f3,f4,f5,f6,f7,f8,f9,f10⟩:=g2 (by simpa using h4);refine w _ ⟨f1,f2,f3,f4,f5,f6,fun x c l=>f7 _ _ (d7 _ _ l),fun y hy=>(f8 y hy).trans (d8 y hy),f10,ms++[R.1],(d10.imp fun _ _=>KnR.le f7).snoc hi ⟨j,rfl,f9⟩,?_⟩;show stM m1 R.1=foM (ms++[R.1]);unfold foM;rw[List.foldl_append,d11];rfl;obtain⟨N1,U1,V1,S1,L1,O,B1,m1⟩:=s;obtain⟨d1,d2,d3,d4,d5,d6,d7,d8,d9,ms,d10,d11⟩:=K;dsimp only at d1 d2 d3 d4 d5 d6 d7 d8 d9 d10 d11⊢;subst d1 d3 d4 d5 d9;rw[jc,jF]at d10;have z:zk O (r:Int)=none:=(d8 _ (by simp[qa1])).trans o;refine Yl.mputB d6.k u (.ret fun _=>⟨rfl,d2,rfl,rfl,rfl,d6.put oa z ?_ (fun h=>by rw[a]at h;cases h) fun k' q' f p=>?_,fun x c l=>zct.put z _ _ (d7 _ _ l),fun y hy=>?_,by simp[qa1],qoj _ g⟩);rw[d11];exact qxx _ _ qus fun c hc=>by
   obtain⟨y,_,j,_,W⟩:=d10.mem hc;exact d6.v _ _ W
  rw[a]at f;have:k=k':=by
   injection f with f
   omega
  subst this;rw[hq]at p;cases p;exact⟨ms,d10,d11⟩;have:=hold y hy;dsimp only;rw[qa1,if_neg (fun e=>this e.symm)];refine d8 y ?_;rw[qa1,if_neg (fun e=>this e.symm)];exact hy;have a:=qlX C;refine Yl.mputB hK.k u (.ret fun _=>⟨rfl,H,rfl,rfl,rfl,hK.put oa o qus (fun _=>rfl) (fun k q f _=>by rw[a]at f;cases f),zct.put o,fun y hy=>?_,by simp[qa1],qoj _ g⟩);dsimp only;rw[qa1,if_neg (fun e=>hold y hy e.symm)]
def Frv(n:Nat)(rep:Nat→Nat)(S L:List (Int×Int))(w:Int):Prop:=∃r:Nat,r<n∧rep r=r∧zk S (r:Int)=none∧zk L (r:Int)=some w
def ExT(n:Nat)(rep:Nat→Nat)(S L:List (Int×Int))(m:qk)(t:T):Prop:=zJ t=true∧((z8 t:Int)=m.f0_size∧(yi t:Int)=m.f1_depth)∧∀w∈zX t,Frv n rep S L w
theorem qe5:(⟨#[]⟩:ByteArray).toList=[]:=by decide+kernel
theorem qs2{v:Int}(h:0≤v)(a:v≤1048576):zJ (T.mk 1 v ⟨#[]⟩ [])=true:=by
 rw[ql7 (by rfl)];exact decide_eq_true ⟨h,a,qe5,rfl⟩
theorem qzR{k i:Int}{s:ByteArray}{ar a:List T}(h:zJ (T.mk k i s ar)=true)(e:k≠1)(f:ar≠[])(hl:a.length=ar.length)(b:∀t∈a,zJ t=true):k=2∧zJ (T.mk k i s a)=true:=by
 have g:k=2:=by
  by_cases c:k=0;subst c;rw[qmb (by rfl)]at h;exact absurd (jG (of_decide_eq_true h).2.2.2) f;by_cases d:k=2;exact d;rw[qlV (t:=T.mk k i s ar) c e d]at h;cases h
 subst g;refine⟨rfl,?_⟩;rw[qkE (by rfl)]at h⊢;rw[jk]at h⊢;refine⟨?_,?_⟩;have:=h.1;simp only[yL,T.ar,T.i,T.s,hl]at this⊢;exact this;show zQ a=true;clear hl;induction a with
 |nil=>rfl
 |cons x a j=>
  simp only[zQ,jk];exact⟨b x (je ..),j fun t l=>b t (jp _ l)⟩
theorem qtG{F:Int}{n M:Nat}{rep K:Nat→Nat}{N:List qt}{V S L:List (Int×Int)}{C:List (Int×qk)}(A:Gr F N V S L rep)(hn:N.length=n)(hN:n≤1000000000)(hK:zb4 N S rep C):∀(d fuel r:Nat)(U:List Int)(m:qk),Uf n U rep K M→r<n→rep r=r→zk C (r:Int)=some m→m.f0_size≤200→m.f1_depth≤d→d≤20→n+d<fuel→Yl (qad fuel (r:Int) N U V S L C) fun x=>ExT n rep S L m x.1∧x.2.1=N∧Uf n x.2.2.1 rep K M∧x.2.2.2.1=V∧x.2.2.2.2.1=S∧x.2.2.2.2.2.1=L∧x.2.2.2.2.2.2=C
 |_,0,_,_,_,_,_,_,_,_,_,_,h=>absurd h oa
 |0,fuel+1,r,U,m,_,_,_,hm,_,hd,_,_=>absurd (hK.v _ _ hm).2.1 oa
 |d+1,fuel+1,r,U,m,O,hr,o,hm,hs,hd,hd20,hf=>by
  unfold qad;dsimp only;refine Yl.ite (fun b=>?_) fun b=>?_;have b:zk S (r:Int)=none:=qlX (by simpa using b);obtain⟨v,p⟩:=A.sl r oa o b;obtain⟨j,E,_⟩:=A.lv r v o p;obtain⟨v1,v2,_⟩:=A.vv _ _ E;rw[p,hK.n r m hm b];refine .ret ⟨⟨qs2 v1 v2,⟨rfl,rfl⟩,fun w hw=>?_⟩,rfl,O,rfl,rfl,rfl,rfl⟩;have hw:w=v:=by simpa[zX]using hw
  subst hw;exact⟨r,hr,o,b,p⟩;obtain⟨v,p⟩:∃v,zk S (r:Int)=some v:=by
   cases h:zk S (r:Int)with
   |none=>
    rw[h]at b;cases b
   |some v=>exact⟨v,rfl⟩
  obtain⟨k,q,rfl,hq,J⟩:=A.sv _ _ p;rw[p];refine Yl.getN hq ?_;obtain⟨P,lq,xq⟩:=A.nd _ _ hq;obtain⟨ms,u,rfl⟩:=hK.s r m hm k q p hq;have G:∀c∈ms,zaS c:=fun c hc=>by
   obtain⟨y,_,j,_,E⟩:=u.mem hc;exact hK.v _ _ E
  obtain⟨l1,l2,l3⟩:=qs4 ms ⟨1,1⟩ qus G hs (by unfold foM at hd;omega);have Q:=u.1;refine Yl.ite (fun f=>?_) fun f=>?_;have g:q.f0_term.ar=[]:=jG (by
   have:(q.f0_term.ar.length:Int)=0:=by simpa using f
   omega)
  have R:ms=[]:=jG (by rw[Q,lq,g];rfl);have hu:q.f0_term.used=[]:=by
   unfold T.used;rw[g,ite_self]
  have e:T.mk q.f0_term.k q.f0_term.i q.f0_term.s q.f0_term.ar=q.f0_term:=by cases q.f0_term;rfl
  rw[e,R];refine .ret ⟨⟨P,⟨by rw[qf2,hu];rfl,by rw[qgf,hu];rfl⟩,fun w hw=>?_⟩,rfl,O,rfl,rfl,rfl,rfl⟩;rw[qfR J,hu]at hw;cases hw;have g:q.f0_term.ar≠[]:=fun e=>by
   rw[e]at f;simp at f
  obtain⟨h6,_,_⟩:=qqi P J;refine Yl.bind (Yl.mkA oa ?_);rw[jO];refine Yl.forL (I:=fun i s=>s.1=N∧Uf n s.2.1 rep K M∧s.2.2.1=V∧s.2.2.2.1=S∧s.2.2.2.2.1=L∧s.2.2.2.2.2.1=C∧s.2.2.2.2.2.2.length=q.f0_term.ar.length∧∀(j:Nat) c t,j<i→ms[j]? =some c→s.2.2.2.2.2.2[j]? =some t→ExT n rep S L c t) q.f1_args 0 _ ⟨rfl,O,rfl,rfl,rfl,rfl,by simp,fun j c t h=>absurd h oa⟩ (fun i x s nx hi W H=>?_) fun s W=>?_;obtain⟨N1,U1,V1,S1,L1,K1,l⟩:=s;obtain⟨d1,d2,d3,d4,d5,d6,d7,d8⟩:=W;dsimp only at d1 d2 d3 d4 d5 d6 d7 d8⊢;subst d1 d3 d4 d5 d6;rw[jc]at d8 H⊢;have hi2:=(jd.1 hi).1;have z:ms[i]? =some (ms[i]'(by omega)):=jj oa;obtain⟨j,rfl,E⟩:=u.2 i _ _ hi z;obtain⟨X,hjj,hj1⟩:=xq _ (List.mem_of_getElem? hi);have:j=X:=by omega
  subst this;obtain⟨Y,Z⟩:=d2.rp j oa;obtain⟨c1,c2⟩:=l3 _ (List.mem_of_getElem? z);have hd':(foM ms).f1_depth≤((d+1:Nat):Int):=hd;unfold foM at hd';refine Yl.bind ((qo5 d2 oa oa).to fun r1 g1=>?_);obtain⟨e1,e2,e3⟩:=g1;rw[e1,e2];refine Yl.bind ((qtG A hn hN hK d fuel (rep j) r1.2.2 _ e3 Y Z E c1 oa oa oa).to fun r2 g2=>?_);obtain⟨f1,f2,f3,f4,f5,f6,f7⟩:=g2;refine Yl.getN (jj oa) ?_;rw[qhk oa];refine H _ ⟨f2,f3,f4,f5,f6,f7,by rw[vT];exact d7,fun X c t b f B=>?_⟩;dsimp only at B;rw[vA]at B;split at B
  rename_i e
  subst e;rw[if_pos oa]at B;cases B;rw[z]at f;cases f;exact f1;exact d8 X c t oa f B;obtain⟨N1,U1,V1,S1,L1,K1,l⟩:=s;obtain⟨d1,d2,d3,d4,d5,d6,d7,d8⟩:=W;dsimp only at d1 d2 d3 d4 d5 d6 d7 d8⊢;subst d1 d3 d4 d5 d6;rw[jc]at d8;have ha:Al2 (ExT n rep S1 L1) ms l:=⟨by omega,fun i c t b f=>d8 i c t (by have:=(jd.1 b).1;omega) b f⟩
  have e:T.mk q.f0_term.k q.f0_term.i q.f0_term.s q.f0_term.ar=q.f0_term:=by cases q.f0_term;rfl
  obtain⟨hk2,hft⟩:=qzR (a:=l) (e▸P) J g d7 fun t ht=>by
   obtain⟨c,_,hx⟩:=ha.mem ht;exact hx.1
  obtain⟨g1,g2⟩:=qzo ms l ⟨1,1⟩ (ha.imp fun _ _ h=>h.2.1) qus G hs (by unfold foM at hd;omega);have hu:(T.mk q.f0_term.k q.f0_term.i q.f0_term.s l).used=l:=by
   unfold T.used;exact if_pos hk2
  have z1:=qf2 (T.mk q.f0_term.k q.f0_term.i q.f0_term.s l);have z2:=qgf (T.mk q.f0_term.k q.f0_term.i q.f0_term.s l);have z3:=qfR (t:=T.mk q.f0_term.k q.f0_term.i q.f0_term.s l) J;rw[hu]at z1 z2 z3;simp only at g1 g2;refine .ret ⟨⟨hft,⟨?_,?_⟩,fun w hw=>?_⟩,rfl,d2,rfl,rfl,rfl,rfl⟩;rw[z1];unfold foM;omega;rw[z2];unfold foM;omega;rw[z3]at hw;obtain⟨t,ht,hw⟩:=qfZ.1 hw;obtain⟨c,_,hx⟩:=ha.mem ht;exact hx.2.2 w hw
theorem size2{t:T}(h:t.k=2):z8 t=1+zC t.ar:=by rw[qf2,T.used,if_pos h]
theorem size0{t:T}(h:t.k≠2):z8 t=1:=by rw[qf2,T.used,if_neg h,zC]
mutual
theorem qwo:∀t:T,zJ t=true→wt t=z8 t
 |.mk k i s ar,h=>by
  by_cases a:k=2;subst a;rw[qkE rfl,jk]at h;rw[size2 rfl,wt];show 1+wtL ar=1+zC ar;rw[qpF ar h.2];have c:ar.length=0:=by
   by_cases e:k=0;subst e;rw[qmb rfl]at h;exact(of_decide_eq_true h).2.2.2;by_cases b:k=1;subst b;rw[ql7 rfl]at h;exact(of_decide_eq_true h).2.2.2;rw[qlV (t:=.mk k i s ar) e b a]at h;cases h
  rw[size0 (t:=.mk k i s ar) a,jG c,wt,wtL]
theorem qpF:∀l:List T,zQ l=true→wtL l=zC l
 |[],_=>by rw[wtL,zC]
 |t::l,h=>by
  rw[zQ,jk]at h;rw[wtL,zC,qwo t h.1,qpF l h.2]
end
theorem qsn{l:List T}(h:yj l=true):zQ l=true∧wtL l≤200:=by
 obtain⟨a,b,_⟩:=(qj0 l).1 h;exact⟨a,by rw[qpF l a];omega⟩
theorem qg2{t:T}(h:zT t=true):zJ t=true∧wt t≤200:=by
 obtain⟨a,b,_⟩:=(qjL t).1 h;exact⟨a,by rw[qwo t a];omega⟩
theorem qhY{a:At}(h:zn a=true):zQ a.ts=true∧wtL a.ts≤200∧a.ts.length≤6:=by
 unfold zn at h;simp only[jk,decide_eq_true_eq]at h;obtain⟨b,c⟩:=qsn h.2;exact⟨b,c,h.1.2⟩
theorem qdC{g:Gl}(h:zu g=true):zQ g.ts=true∧wtL g.ts≤200:=by
 unfold zu at h;split at h
 have:=qhY h;exact⟨this.1,this.2.1⟩;simp only[jk]at h;exact qsn h.2
structure SlF(F:Int)(b:List (Int×T)):Prop where
 asc:b.Pairwise fun q r=>q.1<r.1
 rg:∀q∈b,0≤q.1∧q.1≤1048576∧q.1<F
 tm:∀q∈b,zT q.2=true
 vr:∀q∈b,∀w∈zX q.2,w<F∧w∉b.map (·.1)
theorem qxi{t:T}(a:zJ t=true)(b:z8 t≤200)(c:yi t≤20):zT t=true:=(qjL t).2 ⟨a,by omega,by omega⟩
theorem Gr.vlen{F:Int}{N:List qt}{V S L:List (Int×Int)}{rep:Nat→Nat}(h:Gr F N V S L rep):V.length≤1048577:=by
 have:=qg7 (n:=1048577) h.vk fun x a=>by
  obtain⟨d,hd⟩:=qm1 a;obtain⟨b,c,_⟩:=h.vv _ _ hd;exact⟨x.toNat,by omega,by omega⟩
 unfold zF at this
 rwa [jh]at this
theorem qpK{m:List (Int×Int)}(hl:m.length<1000000000)(hn:(zF m).Nodup):∃l,qga m=some l∧l.length=m.length∧l.Pairwise (fun a b=>a<b)∧∀x,x∈l↔x∈zF m:=by
 refine⟨_,if_pos ⟨hl,hn⟩,by simp,?_,fun x=>by rw[List.mem_mergeSort];rfl⟩;have d:((m.map (·.1)).mergeSort fun a b=>decide (a≤b)).Pairwise fun a b=>decide (a≤b)=true:=List.pairwise_mergeSort (fun a b c d e=>by simp at d e⊢;omega) (fun a b=>by simp;omega) _;have e:((m.map (·.1)).mergeSort fun a b=>decide (a≤b)).Nodup:=(List.mergeSort_perm _ _).nodup_iff.2 hn;exact(d.and e).imp fun h=>by
  have:=of_decide_eq_true h.1;have:=h.2;omega
structure BdI(n:Nat)(rep:Nat→Nat)(V S L:List (Int×Int))(q:Int×T):Prop where
 h:∃k:Nat,zk V q.1=some (k:Int)∧(zk S (rep k:Int)≠none∨zk L (rep k:Int)≠some q.1)
 t:zT q.2=true
 o:∀w∈zX q.2,Frv n rep S L w
theorem qzi{F:Int}{fuel:Nat}{N:List qt}{U:List Int}{V S L:List (Int×Int)}(hG:UG F N U V S L)(hN:N.length≤1000000000)(hf:3*N.length+100<fuel):Yl (qaS fuel N U V S L []) fun r=>r.2.1=0→SlF F r.1:=by
 unfold qaS;obtain⟨rep,rk,M,hU,n⟩:=hG;have K:zb4 N S rep []:=⟨⟨vL,fun x hx=>by cases hx⟩,(fun _ _ h=>by cases h),(fun _ _ h=>by cases h),(fun _ _ h=>by cases h)⟩
 have O:BuOk N.length []:=⟨⟨vL,fun x hx=>by cases hx⟩,fun _ _ h=>by cases h⟩
 have hc:=qqb (fun k=>(zk ([]:List (Int×Bool)) (k:Int)).isNone) N.length;refine Yl.forL (I:=fun i s=>s.1=N∧Uf N.length s.2.1 rep rk M∧s.2.2.1=V∧s.2.2.2.1=S∧s.2.2.2.2.1=L∧zb4 N S rep s.2.2.2.2.2.1∧s.2.2.2.2.2.2=[]∧∀j,j<i→∃m,zk s.2.2.2.2.2.1 (rep j:Int)=some m) N 0 _ ⟨rfl,hU,rfl,rfl,rfl,K,rfl,fun j h=>absurd h oa⟩ (fun i x s nx hi z b=>?_) fun s z=>?_;obtain⟨N1,U1,V1,S1,L1,K1,B1⟩:=s;obtain⟨d1,d2,d3,d4,d5,d6,d7,d8⟩:=z;dsimp only at d1 d2 d3 d4 d5 d6 d7 d8⊢;subst d1 d3 d4 d5 d7;rw[jc]at d8 b⊢;have f:=(jd.1 hi).1;obtain⟨C,E⟩:=d2.rp i f;refine Yl.bind ((qo5 d2 f oa).to fun r1 g1=>?_);obtain⟨e1,e2,e3⟩:=g1;rw[e1,e2];refine Yl.bind ((qoV n rfl hN fuel (rep i) r1.2.2 K1 [] e3 d6 O C E (by unfold freB;omega)).to fun r2 g2=>?_);refine Yl.ite (fun _=>.ret fun h=>by cases h) fun h4=>?_;obtain⟨f1,f2,f3,f4,f5,f6,f7,f8,f9,f10⟩:=g2 (by simpa using h4);refine b _ ⟨f1,f2,f3,f4,f5,f6,f10,fun j hj=>?_⟩;by_cases e:j=i;subst e;exact⟨_,f9⟩;obtain⟨m,hm⟩:=d8 j oa;exact⟨m,f7 _ _ hm⟩;obtain⟨N1,U1,V1,S1,L1,K1,B1⟩:=s;obtain⟨d1,d2,d3,d4,d5,d6,d7,d8⟩:=z;dsimp only at d1 d2 d3 d4 d5 d6 d7 d8⊢;subst d1 d3 d4 d5 d7;rw[jc]at d8;have hV:=n.vlen;obtain⟨l,hl,hll,hl1,hl2⟩:=qpK (m:=V1) oa n.vk;refine Yl.bind (Yl.val (show qlP=some ()from rfl) (Yl.bind (Yl.val hl ?_)));clear hU K O hc;refine Yl.forL (I:=fun i s=>s.2.1=N1∧Uf N1.length s.2.2.1 rep rk M∧s.2.2.2.1=V1∧s.2.2.2.2.1=S1∧s.2.2.2.2.2.1=L1∧s.2.2.2.2.2.2=K1∧(s.1.length≤i∧s.1.Pairwise fun q r=>q.1<r.1)∧∀q∈s.1,q.1∈l.take i∧BdI N1.length rep V1 S1 L1 q) l 0 _ ⟨rfl,d2,rfl,rfl,rfl,rfl,⟨jf _,List.Pairwise.nil⟩,fun q hq=>by cases hq⟩ (fun i v s nx hi z b=>?_) fun s z=>?_;obtain⟨out,N2,U2,V2,S2,L2,K2⟩:=s;obtain⟨P,Q,R,W,X,Y,⟨c7,J⟩,c⟩:=z;dsimp only at P Q R W X Y c7 J c⊢;subst P R W X Y;rw[jc]at c7 c b;have f:=(jd.1 hi).1;obtain⟨k',G⟩:=qm1 ((hl2 v).1 (List.mem_of_getElem? hi));obtain⟨v1,v2,v3,k,rfl,H⟩:=n.vv _ _ G;obtain⟨C,E⟩:=Q.rp k H;rw[G];obtain⟨m,hm⟩:=d8 k H;have d:l.take (i+1)=l.take i++[v]:=by rw[jI,hi];rfl
 refine Yl.bind ((qo5 Q H oa).to fun r1 g1=>?_);obtain⟨e1,e2,e3⟩:=g1;rw[e1,e2,hm];have hin:∀q∈out,q.1<v:=fun q hq=>by
  have p:=(c q hq).1;have g:=hl1;rw[←j7 i l]at g;refine(vO.1 g).2.2 _ p _ ?_;rw[vX f];have:=(jd.1 hi).2;rw[this];exact je ..
 have u:(zk S2 (rep k:Int)≠none∨zk L2 (rep k:Int)≠some v)→∀A B,Yl (bif decide ((((some m).getD (⟨0,0⟩:qk)).f0_size)>(200:Int))then some ([],6,A)else bif decide ((((some m).getD (⟨0,0⟩:qk)).f1_depth)>(20:Int))then some ([],6,B)else(qad fuel (rep k:Int) N2 r1.2.2 V2 S2 L2 K2).bind fun a=>(appO 64 out [(v,a.1)]).bind fun l42=>nx (l42,a.2.1,a.2.2.1,a.2.2.2.1,a.2.2.2.2.1,a.2.2.2.2.2.1,a.2.2.2.2.2.2)) fun r=>r.2.1=0→SlF F r.1:=fun hv A B=>by
  refine Yl.ite (fun _=>.ret fun h=>by cases h) fun p=>Yl.ite (fun _=>.ret fun h=>by cases h) fun g=>?_;have p:¬m.f0_size>200:=of_decide_eq_false p;have g:¬m.f1_depth>20:=of_decide_eq_false g;refine Yl.bind ((qtG n rfl hN d6 20 fuel (rep k) r1.2.2 m e3 C E hm oa oa oa oa).to fun r2 g2=>?_);obtain⟨⟨f0,⟨fa,fb⟩,fc⟩,f2,f3,f4,f5,f6,f7⟩:=g2;refine Yl.bind (Yl.appO (by simp only[jg,ji];omega) (b _ ⟨f2,f3,f4,f5,f6,f7,⟨by simp;omega,?_⟩,fun q hq=>?_⟩));exact vO.2 ⟨J,JZ ..,fun q hq r hr=>by rw[jr.1 hr];exact hin q hq⟩;rw[d];rcases jl.1 hq with hq|hq
  exact⟨jz _ (c q hq).1,(c q hq).2⟩;rw[jr.1 hq];exact⟨jB _ (jr.2 rfl),⟨k,G,hv⟩,qxi f0 (by dsimp only;omega) (by dsimp only;omega),fc⟩
 refine Yl.ite (fun p=>Yl.ite (fun g=>?_) fun g=>?_) fun p=>?_;refine b _ ⟨rfl,e3,rfl,rfl,rfl,rfl,⟨by dsimp only;omega,J⟩,fun q hq=>⟨?_,(c q hq).2⟩⟩;rw[d];exact jz _ (c q hq).1;refine u (.inr fun e=>?_) _ _;rw[e]at g;simp at g;refine u (.inl fun e=>?_) _ _;rw[e]at p;simp at p;obtain⟨out,N2,U2,V2,S2,L2,K2⟩:=s;obtain⟨P,Q,R,W,X,Y,⟨c7,J⟩,c⟩:=z;dsimp only at P Q R W X Y c7 J c⊢;subst P R W X Y;refine .ret fun _=>⟨J,fun q hq=>?_,fun q hq=>(c q hq).2.t,fun q hq w hw=>?_⟩
 obtain⟨k,Z,_⟩:=(c q hq).2.h;obtain⟨v1,v2,v3,_⟩:=n.vv _ _ Z;exact⟨v1,v2,v3⟩;obtain⟨r,hr,hrr,hs,hL⟩:=(c q hq).2.o w hw;obtain⟨j,hj,hjr⟩:=n.lv r w hrr hL;refine⟨(n.vv _ _ hj).2.2.1,fun hm=>?_⟩;obtain⟨q',hq',rfl⟩:=jt.1 hm;obtain⟨k,Z,hk2⟩:=(c q' hq').2.h;rw[hj]at Z;have:j=k:=by
  injection Z with Z
  omega
 subst this;rw[hjr]at hk2;exact hk2.elim (fun h=>h hs) fun h=>h hL
theorem qls(l:List T)(h:∀t∈l,wt t≤1000000000):qeD l=some (l.all zT):=by
 unfold qeD qcp qdf;rw[qf5 qev (fun t=>!zT t) l (fun t a=>by
  unfold qev;rw[qtv t (h t a)];rfl) fun _ _ _=>rfl]
 simp only[jb,qhW,qeE]
theorem qBV{F:Int}:UG F [] [] [] [] []:=⟨id,fun _=>0,0,⟨rfl,fun k h=>absurd h og,fun k h=>absurd h og,fun k h=>absurd h og,by simp[zaI]⟩,⟨fun k q h=>(by simp at h),vL,fun _ _ h=>(by cases h),⟨vL,fun x a=>(by cases a)⟩,fun _ _ h=>(by cases h),⟨vL,fun x a=>(by cases a)⟩,fun _ _ _ h=>(by cases h),fun r h=>absurd h og⟩⟩
def TmF(F:Int)(t:T):Prop:=wt t≤1000000000∧∀w∈zX t,w<F
theorem qBl{F:Int}{fuel:Nat}{a b:List T}(Z:10000000000<fuel)(p:∀t∈a,TmF F t)(hb:∀t∈b,TmF F t)(hl:a.length≤2000000):Yl (qfw fuel a b) fun r=>r.2=0→SlF F r.1:=by
 unfold qfw;refine Yl.bind (Yl.val (qls a fun t l=>(p t l).1) (Yl.ite (fun _=>.ret fun h=>by cases h) fun m=>?_));refine Yl.bind (Yl.val (qls b fun t l=>(hb t l).1) (Yl.ite (fun _=>.ret fun h=>by cases h) fun n=>?_));have m:∀t∈a,zT t=true:=by simpa using m
 have n:∀t∈b,zT t=true:=by simpa using n
 refine Yl.ite (fun _=>.ret fun h=>by cases h) fun u=>?_;have u:a.length=b.length:=by
  have:(a.length:Int)=(b.length:Int):=by simpa using u
  omega
 refine Yl.bind (Yl.val (show qeY=some ([],[],[],[],[],[])from rfl) ?_);refine Yl.forL (I:=fun i s=>UG F s.1 s.2.1 s.2.2.1 s.2.2.2.1 s.2.2.2.2.1∧s.2.2.2.2.2=[]∧s.1.length≤400*i) a 0 _ ⟨qBV,rfl,jf _⟩ (fun i x s nx hi o c=>?_) fun s o=>?_;obtain⟨N,U,V,S,L,K⟩:=s;obtain⟨d1,d2,d3⟩:=o;dsimp only at d1 d2 d3⊢;subst d2;rw[jc]at d3 c⊢;have w:=(jd.1 hi).1;have d:b[i]? =some (b[i]'(by omega)):=jj oa;refine Yl.getN d ?_;have e:=List.mem_of_getElem? hi;have f:=List.mem_of_getElem? d;obtain⟨z,wa⟩:=qg2 (m x e);obtain⟨fb,wb⟩:=qg2 (n _ f);refine Yl.bind ((qzW fuel x N U V S L [] oa z (p x e).2 oa d1).to fun j A=>?_);obtain⟨B,C,⟨E,a3,a4⟩,a5,a6⟩:=A;rw[C];refine Yl.bind ((qzW fuel _ j.2.1 j.2.2.1 j.2.2.2.1 j.2.2.2.2.1 j.2.2.2.2.2.1 [] oa fb (hb _ f).2 oa B).to fun r2 G=>?_);obtain⟨H,J,⟨M,O,P⟩,b5,b6⟩:=G;refine Yl.bind (Yl.ret ?_);rw[J];refine Yl.bind ((qBQ H (fun q hq=>?_) og oa oa).to fun r3 Q=>?_);rw[jr.1 hq];exact⟨⟨E,a3,by omega⟩,M,O,P⟩;refine Yl.ite (fun _=>.ret fun h=>by cases h) fun R=>?_;obtain⟨v,W,X,Y⟩:=Q (by simpa using R);refine c _ ⟨?_,Y,?_⟩;dsimp only;rw[v,X];exact W;dsimp only;rw[v];omega;obtain⟨N,U,V,S,L,K⟩:=s;obtain⟨d1,d2,d3⟩:=o;dsimp only at d1 d2 d3⊢;subst d2;refine Yl.bind ((qzi d1 oa oa).to fun r g=>?_);exact .ret g
theorem qsG{fuel:Nat}{a b:T}(d:10000000000<fuel)(e:wt a≤1000000000)(hb:wt b≤1000000000):Yl (qbx fuel a b) fun _=>True:=by
 unfold qbx qf0;have bd:∀l:List Int,∃F:Int,∀w∈l,w<F:=fun l=>by
  induction l with
  |nil=>exact⟨0,fun w hw=>by cases hw⟩
  |cons x l f=>
   obtain⟨F,hF⟩:=f;refine⟨max F (x+1),fun w hw=>?_⟩;rcases jx.1 hw with rfl|hw
   omega;have:=hF w hw;omega
 obtain⟨F,hF⟩:=bd (zX a++zX b);refine Yl.bind (Yl.bind ((qBl (F:=F) d ?_ ?_ og).to fun r _=>.ret ?_));intro t c;rw[jr.1 c];exact⟨e,fun w hw=>hF w (jz _ hw)⟩;intro t c;rw[jr.1 c];exact⟨hb,fun w hw=>hF w (jB _ hw)⟩;exact Yl.ite (fun _=>.ret trivial) fun _=>.ret trivial
theorem qqM{α:Type}{g:α→Bool}{l:List α}(h:0≤ixF g l):∃(i:Nat)(q:α),ixF g l=(i:Int)∧l[i]? =some q∧g q=true:=by
 unfold ixF at h⊢;cases e:l.findIdx? g with
 |none=>
  rw[e]at h;exact absurd h od
 |some i=>
  obtain⟨hi,a,_⟩:=J4.1 e;exact⟨i,l[i],rfl,jj hi,a⟩
theorem qxC{α:Type}{g:α→Bool}{l:List α}(h:¬0≤ixF g l):∀q∈l,g q=false:=by
 unfold ixF at h;cases e:l.findIdx? g with
 |none=>
  rw[List.findIdx?_eq_none_iff]at e;exact fun q hq=>by simpa using e q hq
 |some i=>
  rw[e]at h;exact absurd (Int.natCast_nonneg i) h
theorem Yl.fillC{α ρ:Type}{Q:ρ→Prop}{body:Int→List α→(List α→Option ρ)→Option ρ}{k:List α→Option ρ}(R:α→α→Prop)(l:List α)(hb:∀(j:Nat)(q:α)(a:List α)(e:List α→Option ρ),l[j]? =some q→a[j]? =some q→(∀x,R q x→Yl (e (a.set j x)) Q)→Yl (body (j:Int) a e) Q)(r:∀m,Al2 R l m→Yl (k m) Q):Yl (Go.Proofs.YtgcegilpajfdhaaGreat.forC body k ((l.length:Int)-0).toNat 0 l) Q:=by
 have hn:((l.length:Int)-0).toNat=l.length:=by omega
 rw[hn];refine Yl.forC (I:=fun i a=>∃j:Nat,i=(j:Int)∧a.length=l.length∧(∀(i:Nat)(q x:α),i<j→l[i]? =some q→a[i]? =some x→R q x)∧∀i:Nat,j≤i→a[i]? =l[i]?) l.length 0 l ⟨0,rfl,rfl,fun i q x h=>absurd h oa,fun i _=>rfl⟩ (fun j s e t u d=>?_) fun m hm=>?_;obtain⟨v,o,f,g,p⟩:=u;rw[Int.zero_add]at o d⊢;have:j=v:=by omega
 subst this;have hq:l[j]? =some l[j]:=jj t;refine hb j l[j] s e hq ((p j (jf _)).trans hq) fun x w=>d _ ⟨j+1,by omega,by rw[vT];exact f,fun i q y hi c b=>?_,fun i hi=>?_⟩;rw[vA]at b;split at b
 rename_i n
 subst n;rw[hq]at c;cases c;split at b
 cases b;exact w;cases b;exact g i q y oa c b;rw[List.getElem?_set_ne oa];exact p i oa;obtain⟨j,o,f,g,_⟩:=hm;refine r m ⟨f,fun i q x c b=>g i q x ?_ c b⟩;have:=(jd.1 c).1;omega
theorem Yl.fillA{α β ρ:Type}{Q:ρ→Prop}{body:Nat→α→List β→(List β→Option ρ)→Option ρ}{k:List β→Option ρ}(R:α→β→Prop)(l:List α)(hb:∀(j:Nat)(q:α)(a:List β)(c:List β→Option ρ),l[j]? =some q→a.length=j→(∀x,R q x→Yl (c (a++[x])) Q)→Yl (body j q a c) Q)(f:∀m,Al2 R l m→Yl (k m) Q):Yl (Go.Proofs.YtgcegilpajfdhaaGreat.forL body k 0 l []) Q:=by
 refine Yl.forL (I:=fun i a=>Al2 R (l.take i) a) l 0 [] Al2.nil (fun j q a c d e b=>?_) fun m hm=>f m (by rwa [jc,jF]at hm);rw[jc]at e b⊢;have g:=(jd.1 d).1;refine hb j q a c d ?_ fun x h=>b _ (e.snoc d h);rw[e.1,jA];omega
theorem Al2.cons_inv{α β:Type}{R:α→β→Prop}{q:α}{l:List α}{x:β}{m:List β}(h:Al2 R (q::l) (x::m)):R q x∧Al2 R l m:=⟨h.2 0 q x rfl rfl,by simpa using h.1,fun i p y a b=>h.2 (i+1) p y (by simpa using a) (by simpa using b)⟩
def dmB(b:List (Int×T)):List Int:=b.map (·.1)
theorem qyJ(b:List (Int×T))(v:Int):Yl (qeT b v) fun r=>(r.2=true→(v,r.1)∈b)∧(r.2=false→v∉dmB b):=by
 unfold qeT qdc;rw[qf5 (fun q=>qe1 q v) (fun q=>q.1==v) b (fun _ _=>rfl) fun _ _ _=>rfl];refine Yl.bind (Yl.ret (Yl.ite (fun h=>?_) fun h=>?_));have h:=of_decide_eq_true h;refine .ret ⟨fun h=>(by cases h),fun _ hm=>?_⟩;obtain⟨q,hq,rfl⟩:=jt.1 hm;have:=qxC (g:=fun p:Int×T=>p.1==q.1) (l:=b) oa q hq;simp at this;have h:=of_decide_eq_false h;obtain⟨i,q,c,a,d⟩:=qqM (g:=fun q:Int×T=>q.1==v) (l:=b) oa;rw[c];refine Yl.getN a (.ret ⟨fun _=>?_,fun h=>by cases h⟩);have:q.1=v:=by simpa using d
 rw[←this];exact List.mem_of_getElem? a
def ApV(b:List (Int×T))(os:List Int)(w:Int):Prop:=(w∈os∧w∉dmB b)∨∃q∈b,w∈zX q.2
def ApT(b:List (Int×T))(t u:T):Prop:=wt u≤200*wt t∧∀w∈zX u,ApV b (zX t) w
def ApL(b:List (Int×T))(l m:List T):Prop:=m.length=l.length∧wtL m≤200*wtL l∧∀w∈zy m,ApV b (zy l) w
theorem ApV.up{b:List (Int×T)}{os a:List Int}{w:Int}(h:ApV b os w)(k:∀x∈os,x∈a):ApV b a w:=h.imp (fun h=>⟨k w h.1,h.2⟩) id
theorem qzH{b:List (Int×T)}:∀{l m:List T},Al2 (ApT b) l m→ApL b l m
 |[],m,h=>by
  have:m=[]:=jG h.1;subst this;exact⟨rfl,ju _,fun w hw=>by cases hw⟩
 |t::l,[],h=>absurd h.1 og
 |t::l,u::m,h=>by
  obtain⟨⟨g,c⟩,d⟩:=h.cons_inv;obtain⟨e,j,f⟩:=qzH d;refine⟨by simp[e],by simp only[wtL];omega,fun w hw=>?_⟩;simp only[zy,jl]at hw;rcases hw with hw|hw
  exact(c w hw).up fun x a=>by simp[zy,a]
  exact(f w hw).up fun x a=>by simp[zy,a]
theorem T.eta(t:T):T.mk t.k t.i t.s t.ar=t:=by cases t;rfl
theorem quf{b:List (Int×T)}(hb:∀q∈b,wt q.2≤200){rec:List (Int×T)→List T→Option (List T)}{t:T}(h:Yl (rec b t.ar) (ApL b t.ar)):Yl (qcJ rec b t) (ApT b t):=by
 unfold qcJ;have hw:=qd4 t;rw[T.eta];refine Yl.ite (fun c=>?_) fun c=>Yl.ite (fun a=>?_) fun a=>.ret ⟨by omega,fun w hw=>?_⟩;have c:t.k=1:=by simpa using c
 refine Yl.bind ((qyJ b t.i).to fun r hr=>Yl.ite (fun a=>.ret ?_) fun a=>.ret ?_);have:=hr.1 a;have d:=hb _ this;exact⟨by simp only at d;omega,fun w hw=>.inr ⟨_,this,hw⟩⟩;refine⟨by omega,fun w hw=>.inl ⟨hw,?_⟩⟩;rw[qjQ c,jr]at hw;rw[hw];exact hr.2 a;have a:t.k=2:=by simpa using a
 refine Yl.bind (h.to fun r hr=>.ret ⟨?_,fun w hw=>?_⟩);have:=qd4 (T.mk t.k t.i t.s r);simp only[T.ar]at this;have:=hr.2.1;omega;have e:zX (T.mk t.k t.i t.s r)=zy r:=by
  rw[qfR (t:=T.mk t.k t.i t.s r) (by show t.k≠1;omega)];exact congrArg zy (show(T.mk t.k t.i t.s r).used=r from if_pos a)
 have f:zX t=zy t.ar:=by rw[qfR oa,T.used,if_pos a]
 rw[e]at hw;rw[f];exact hr.2.2 w hw;have c:t.k≠1:=by simpa using c
 have a:t.k≠2:=by simpa using a
 rw[qfR c,T.used,if_neg a]at hw;cases hw
theorem qk3{b:List (Int×T)}(hb:∀q∈b,wt q.2≤200):∀(fuel:Nat)(l:List T),wtL l<fuel→wtL l≤10000000→Yl (qbM fuel b l) (ApL b l)
 |0,_,h,_=>absurd h oa
 |fuel+1,l,g,hl=>by
  unfold qbM;dsimp only;have:=qks l;refine Yl.bind (Yl.val (show clO 56 l=some l from ?_) ?_);unfold clO;rw[qeL oe oe];rfl;refine Yl.fillC (ApT b) l (fun j q a n e d c=>?_) fun m hm=>.ret (qzH hm);have hq:=qdT (List.mem_of_getElem? e);have hw:=qd4 q;refine Yl.getN d (Yl.bind ((quf hb (qk3 hb fuel q.ar oa oa)).to fun x f=>?_));rw[qhk (jd.1 d).1];exact c x f
theorem qAq{b:List (Int×T)}{fuel:Nat}{t:T}(hb:∀q∈b,wt q.2≤200)(a:10000000<fuel)(c:wt t≤10000000):Yl (qhq fuel b t) (ApT b t):=by
 have:=qd4 t;exact quf hb (qk3 hb fuel t.ar oa oa)
def ApG(b:List (Int×T))(g h:Gl):Prop:=h.op=g.op∧h.n=g.n∧ApL b g.ts h.ts
theorem qn1{b:List (Int×T)}{fuel:Nat}{g:Gl}(hb:∀q∈b,wt q.2≤200)(c:10000000<fuel)(a:wtL g.ts≤10000000):Yl (qb6 fuel b g) (ApG b g):=by
 unfold qb6;exact Yl.bind ((qk3 hb fuel g.ts oa a).to fun r hr=>.ret ⟨rfl,rfl,hr⟩)
def ApI(b:List (Int×T))(x y:Int×At):Prop:=y.1=x.1∧y.2.n=x.2.n∧ApL b x.2.ts y.2.ts
theorem qqX{b:List (Int×T)}{fuel:Nat}{l:List (Int×At)}(hb:∀q∈b,wt q.2≤200)(e:10000000<fuel)(hl:∀x∈l,wtL x.2.ts≤10000000)(hn:l.length≤1000000):Yl (qff fuel l b) fun m=>Al2 (ApI b) l m:=by
 unfold qff;refine Yl.bind (Yl.mkA oa ?_);rw[jO];refine Yl.fill (z:=(0,(⟨⟨#[]⟩,[]⟩:At))) (ApI b) l _ og (fun j q a f c g d=>?_) fun m hm=>.ret hm;have h:=(jd.1 c).1;unfold qeO;refine Yl.bind (Yl.bind ((qk3 hb fuel q.2.ts (by have:=hl q (List.mem_of_getElem? c);omega) (hl q (List.mem_of_getElem? c))).to fun r hr=>.ret ?_));refine Yl.getN (jj oa) ?_;rw[qhk oa];exact d _ ⟨rfl,rfl,hr⟩
def InV(env:List (Int×T))(fresh:Int)(os:List Int)(w:Int):Prop:=(∃v∈os,w=v+fresh)∨∃q∈env,w∈zX q.2
def InT(env:List (Int×T))(fresh:Int)(t u:T):Prop:=wt u≤200*wt t∧∀w∈zX u,InV env fresh (zX t) w
def InL(env:List (Int×T))(fresh:Int)(l m:List T):Prop:=m.length=l.length∧wtL m≤200*wtL l∧∀w∈zy m,InV env fresh (zy l) w
theorem InV.up{env:List (Int×T)}{fresh:Int}{os a:List Int}{w:Int}(h:InV env fresh os w)(k:∀x∈os,x∈a):InV env fresh a w:=h.imp (fun⟨v,h,e⟩=>⟨v,k v h,e⟩) id
theorem qzq{env:List (Int×T)}{fresh:Int}:∀{l m:List T},Al2 (InT env fresh) l m→InL env fresh l m
 |[],m,h=>by
  have:m=[]:=jG h.1;subst this;exact⟨rfl,ju _,fun w hw=>by cases hw⟩
 |t::l,[],h=>absurd h.1 og
 |t::l,u::m,h=>by
  obtain⟨⟨f,b⟩,c⟩:=h.cons_inv;obtain⟨d,g,e⟩:=qzq c;refine⟨by simp[d],by simp only[wtL];omega,fun w hw=>?_⟩;simp only[zy,jl]at hw;rcases hw with hw|hw
  exact(b w hw).up fun x a=>by simp[zy,a]
  exact(e w hw).up fun x a=>by simp[zy,a]
theorem qzG(env:List (Int×T))(v:Int):qe8 env v=some (ixF (fun q=>q.1==v) env):=by
 unfold qe8 qc8;rw[qf5 (fun q=>qfE q v) (fun q=>q.1==v) env (fun _ _=>rfl) fun _ _ _=>rfl];rfl
theorem qAX{env:List (Int×T)}{fresh:Int}(hb:∀q∈env,wt q.2≤200)(m:0≤fresh∧fresh≤1048576){rec:List (Int×T)→Int→List T→Option (List T)}{t:T}(l:∀v∈zX t,0≤v∧v≤1048576)(h:t.k=2→Yl (rec env fresh t.ar) (InL env fresh t.ar)):Yl (qcV rec env fresh t) (InT env fresh t):=by
 unfold qcV;have hw:=qd4 t;refine Yl.ite (fun b=>?_) fun b=>Yl.ite (fun c=>?_) fun c=>Yl.ite (fun a=>?_) fun a=>.ret ⟨by omega,fun w hw=>?_⟩;have b:t.k=1:=by simpa using b
 have j:=qjQ b;have hi:=l t.i (by rw[j];simp);refine Yl.bind (Yl.val (qzG env t.i) (Yl.ite (fun c=>?_) fun c=>?_));have c:=of_decide_eq_true c;obtain⟨i,q,e,d,n⟩:=qqM c;rw[e];have hm:=List.mem_of_getElem? d;have:=hb _ hm;exact Yl.getN d (.ret ⟨by omega,fun w hw=>.inr ⟨q,hm,hw⟩⟩);have e:wr ((9223372036854775807:Int)-fresh)=9223372036854775807-fresh:=qex oa;have d:wr (t.i+fresh)=t.i+fresh:=qex oa;have fin:Yl ((qc0 (wr (t.i+fresh))).bind fun r=>some r) (InT env fresh t):=by
  refine Yl.bind (Yl.ret (.ret ⟨by simp[wt,wtL];omega,fun w hw=>.inl ⟨t.i,by rw[j];simp,?_⟩⟩));rw[d]at hw;simpa[zX]using hw
 rw[e];refine Yl.ite (fun a=>Yl.ite (fun g=>Yl.ite (fun f=>fin) fun f=>?_) fun g=>?_) fun a=>Yl.ite (fun f=>fin) fun f=>?_;have:=of_decide_eq_false f;omega;have g:t.i>9223372036854775807-fresh:=by simpa using g
 omega;have:=of_decide_eq_false f;omega;refine Yl.bind (Yl.ret (.ret ⟨by simp[wt,wtL];omega,fun w hw=>by simp[zX]at hw⟩));have a:t.k=2:=by simpa using a
 have b:t.k≠1:=by omega
 refine Yl.bind ((h a).to fun r hr=>Yl.bind (Yl.ret (.ret ⟨?_,fun w hw=>?_⟩)));have:=hr.2.1;simp only[wt];omega;have d:zX t=zy t.ar:=by rw[qfR b,T.used,if_pos a]
 have e:zX (T.mk 2 0 t.s r)=zy r:=by simp[zX]
 rw[e]at hw;rw[d];exact hr.2.2 w hw;have b:t.k≠1:=by simpa using b
 have a:t.k≠2:=by simpa using a
 rw[qfR b,T.used,if_neg a]at hw;cases hw
theorem qor{env:List (Int×T)}{fresh:Int}(hb:∀q∈env,wt q.2≤200)(f:0≤fresh∧fresh≤1048576):∀(fuel:Nat)(l:List T),wtL l<fuel→wtL l≤10000000→(∀v∈zy l,0≤v∧v≤1048576)→Yl (qb2 fuel env fresh l) (InL env fresh l)
 |0,_,h,_,_=>absurd h oa
 |fuel+1,l,u,hl,n=>by
  unfold qb2;dsimp only;have o:=qks l;refine Yl.fillA (InT env fresh) l (fun j q a w g z e=>?_) fun m hm=>.ret (qzq hm);have c:=List.mem_of_getElem? g;have hq:=qdT c;have hw:=qd4 q;have A:=(jd.1 g).1;have d:∀v∈zX q,0≤v∧v≤1048576:=fun v b=>n v (qfZ.2 ⟨q,c,b⟩);refine Yl.bind ((qAX hb f d (rec:=qb2 fuel) fun p=>?_).to fun x r=>?_);have t:zX q=zy q.ar:=by rw[qfR oa,T.used,if_pos p]
  exact qor hb f fuel q.ar oa oa fun v b=>d v (by rw[t];exact b);exact Yl.bind (Yl.appO (by simp only[jg,ji];omega) (e x r))
def InG(env:List (Int×T))(fresh:Int)(g h:Gl):Prop:=h.op=g.op∧h.n=g.n∧InL env fresh g.ts h.ts
theorem qj8{env:List (Int×T)}{fresh:Int}{fuel:Nat}{g:Gl}(hb:∀q∈env,wt q.2≤200)(a:0≤fresh∧fresh≤1048576)(d:10000000<fuel)(b:wtL g.ts≤10000000)(c:∀v∈zy g.ts,0≤v∧v≤1048576):Yl (qbY fuel env fresh g) (InG env fresh g):=by
 unfold qbY;exact Yl.bind ((qor hb a fuel g.ts oa b c).to fun r hr=>.ret ⟨rfl,rfl,hr⟩)
def TrP(Z:Int→Prop)(t:T):Prop:=wt t≤200∧∀w∈zX t,Z w
def PrP(Z:Int→Prop)(q:qy):Prop:=TrP Z q.f1_t
def tw:List qy→Nat |[]=>0 |q::l=>wt q.f0_pattern+tw l
theorem qzJ(a b:List qy):tw (a++b)=tw a+tw b:=by
 induction a with
 |nil=>simp[tw]
 |cons x a c=>simp[tw,c];omega
theorem qzr(l:List qy):l.length≤tw l:=by
 induction l with
 |nil=>exact jf _
 |cons x l a=>
  have:=qd4 x.f0_pattern;simp only[jg,tw];omega
theorem quq{Z:Int→Prop}{p ts:List T}(hl:p.length=ts.length)(g:wtL p≤1000000)(e:∀t∈ts,TrP Z t):Yl (qeb p ts) fun r=>tw r=wtL p∧∀q∈r,PrP Z q:=by
 unfold qeb;have:=qks p;refine Yl.bind (Yl.val (show zad 112 (p.length:Int)=some p.length from ?_) ?_);unfold zad;rw[if_pos oa,jO];refine Yl.fillA (fun(a:T)(q:qy)=>q.f0_pattern=a∧PrP Z q) p (fun j q a n c f d=>?_) fun m hm=>.ret ⟨?_,fun q hq=>?_⟩;have o:=(jd.1 c).1;have b:j<ts.length:=by omega
 refine Yl.getN (jj b) (Yl.bind (Yl.appO (by simp only[jg,ji];omega) (d _ ⟨rfl,e _ (JJ b)⟩)));clear g this hl e;induction p generalizing m with
 |nil=>
  have:m=[]:=jG hm.1;rw[this];rfl
 |cons x p l=>
  cases m with
  |nil=>exact absurd hm.1 og
  |cons y m=>
   obtain⟨⟨c,_⟩,f⟩:=hm.cons_inv;simp only[tw,wtL,c,l m f]
 obtain⟨_,_,_,h⟩:=hm.mem hq;exact h
theorem TrP.ar{Z:Int→Prop}{t:T}(h:TrP Z t)(a:t.k=2):∀q∈t.ar,TrP Z q:=fun q hq=>by
 have b:=qd4 t;have c:=qdT hq;have d:=h.1;refine⟨by omega,fun w hw=>h.2 w ?_⟩;rw[qfR oa,T.used,if_pos a];exact qfZ.2 ⟨q,hq,hw⟩
theorem qvv{Z:Int→Prop}{env:List (Int×T)}{b:Int×T}(he:∀q∈env,TrP Z q.2)(hb:TrP Z b.2)(hn:env.length<1000000000):Yl (qh5 env b) fun r=>(∀q∈r,TrP Z q.2)∧r.length=env.length+1:=by
 refine⟨_,if_pos hn,fun q hq=>?_,?_⟩;rcases jl.1 hq with hq|hq
 exact he q (List.takeWhile_prefix _|>.subset hq);rcases jx.1 hq with rfl|hq
 exact hb;exact he q (List.dropWhile_suffix _|>.subset hq);have:=congrArg List.length (J0 (p:=fun x:Int×T=>!decide (x.1>b.1)) (l:=env));rw[ja]at this;rw[ja,jg];omega
theorem qCQ{Z:Int→Prop}{env:List (Int×T)}{p:qy}(he:∀q∈env,TrP Z q.2)(hn:env.length<1000000000)(d:PrP Z p)(hw:wt p.f0_pattern≤1000000):Yl (qfH env p) fun r=>r.2.2=true→(∀q∈r.1,TrP Z q.2)∧(∀q∈r.2.1,PrP Z q)∧r.1.length≤env.length+1∧tw r.2.1+1≤wt p.f0_pattern:=by
 unfold qfH;have l:=qd4 p.f0_pattern;refine Yl.ite (fun g=>?_) fun g=>Yl.ite (fun a=>?_) fun a=>?_;refine Yl.bind (Yl.val (qzG env p.f0_pattern.i) (Yl.ite (fun a=>?_) fun a=>?_));have a:=of_decide_eq_true a;obtain⟨i,q,j,e,m⟩:=qqM a;rw[j];have hq:=(he q (List.mem_of_getElem? e)).1;refine Yl.getN e (Yl.bind (Yl.val (if_pos oa) (.ret fun _=>⟨he,fun q hq=>(by cases hq),by simp,by simp[tw];omega⟩)));exact Yl.bind ((qvv (b:=(p.f0_pattern.i,p.f1_t)) he d hn).to fun r hr=>.ret fun _=>⟨hr.1,fun q hq=>(by cases hq),by have:=hr.2;simp only;omega,by simp[tw];omega⟩);refine Yl.ite (fun _=>.ret fun h=>by cases h) fun c=>Yl.ite (fun _=>.ret fun h=>by cases h) fun _=>Yl.ite (fun _=>.ret fun h=>by cases h) fun f=>?_;have c:p.f1_t.k=2:=by simpa using c
 have f:(p.f1_t.ar.length:Int)=(p.f0_pattern.ar.length:Int):=by simpa using f
 exact Yl.bind ((quq oa oa (d.ar c)).to fun r hr=>.ret fun _=>⟨he,hr.2,by simp,by have:=hr.1;simp only;omega⟩);exact Yl.bind (Yl.val (if_pos oa) (.ret fun _=>⟨he,fun q hq=>(by cases hq),by simp,by simp[tw];omega⟩))
theorem qCV{Z:Int→Prop}{fuel:Nat}{env:List (Int×T)}{l:List qy}(he:∀q∈env,TrP Z q.2)(hl:∀q∈l,PrP Z q)(hn:env.length+tw l≤1000000)(g:tw l<fuel):Yl (qf7 fuel env l) fun r=>r.2=true→(∀q∈r.1,TrP Z q.2)∧r.1.length≤env.length+tw l:=by
 unfold qf7;refine Yl.forF (I:=fun s=>(∀q∈s.1,TrP Z q.2)∧(∀q∈s.2,PrP Z q)∧s.1.length+tw s.2≤env.length+tw l) (μ:=fun s=>tw s.2) ?_ fuel _ ⟨he,hl,jf _⟩ g;rintro⟨e,a⟩ t ⟨c,d,f⟩ IH;dsimp only at c d f⊢;refine Yl.ite (fun h=>?_) fun _=>.ret fun _=>⟨c,by simp only;omega⟩
 cases a with
 |nil=>cases h
 |cons q a=>
  simp only[tw]at f;have hlen:=qzr a;refine Yl.getN (l:=q::a) (k:=0) rfl (Yl.bind ((qCQ c oa (d q (je ..)) oa).to fun r hr=>?_));refine Yl.ite (fun _=>.ret fun h=>by cases h) fun j=>?_;obtain⟨m,n,u,v⟩:=hr (by simpa using j);have w:=qzr r.2.1;refine Yl.bind (Yl.subO (by simp only[jg];omega) ?_);have o:(List.take ((q::a).length:Int).toNat (q::a)).drop (1:Int).toNat=a:=by
   rw[jO,jF];rfl
  rw[o];refine Yl.bind (Yl.val (if_pos ⟨by simp;omega,by simp⟩) (IH _ ⟨m,fun p b=>?_,?_⟩ ?_));simp only[vM,JY,jv]at b;rcases jl.1 b with b|b
  exact n p b;exact d p (jp _ b);simp only[vM,JY,jv,qzJ];omega;simp only[vM,JY,jv,qzJ,tw];omega
theorem qsU{Z:Int→Prop}{fuel:Nat}{env:List (Int×T)}{p a:At}(he:∀q∈env,TrP Z q.2)(c:∀t∈a.ts,TrP Z t)(hn:env.length≤10000)(e:wtL p.ts≤200)(f:1000000<fuel):Yl (qfC fuel env p a) fun r=>r.2=true→(∀q∈r.1,TrP Z q.2)∧r.1.length≤env.length+200:=by
 unfold qfC;refine Yl.ite (fun _=>.ret fun h=>by cases h) fun _=>Yl.ite (fun _=>.ret fun h=>by cases h) fun b=>?_;have b:(p.ts.length:Int)=(a.ts.length:Int):=by simpa using b
 refine Yl.bind (Yl.appO oe ?_);rw[jq];refine Yl.bind ((quq oa oa c).to fun r hr=>?_);refine Yl.bind ((qCV he hr.2 oa oa).to fun s hs=>.ret fun h=>?_);obtain⟨d,g⟩:=hs h;exact⟨d,by have:=hr.1;dsimp only;omega⟩
theorem qf8(b:Bool):qV b=some (bif b then 1 else 2):=by cases b<;>rfl
theorem qm7:∀(fuel:Nat)(t:T),wt t<fuel→Yl (qej fuel t) fun _=>True
 |0,_,h=>absurd h oa
 |fuel+1,t,h=>by
  unfold qej;dsimp only;have hw:=qd4 t;refine Yl.ite (fun _=>.ret trivial) fun _=>Yl.ite (fun _=>.ret trivial) fun _=>Yl.ite (fun _=>?_) fun _=>.ret trivial;refine Yl.bind (Yl.val (if_pos trivial) (Yl.ite (fun _=>Yl.ite (fun a=>?_) fun _=>.ret trivial) fun _=>.ret trivial));have a:t.ar.length=2:=by
   have:(t.ar.length:Int)=2:=by simpa using a
   omega
  have b:t.ar[0]? =some (t.ar[0]'(by omega)):=jj oa;have c:t.ar[1]? =some (t.ar[1]'(by omega)):=jj oa;have w0:=qdT (List.mem_of_getElem? b);have w1:=qdT (List.mem_of_getElem? c);exact Yl.getN (k:=0) b (Yl.bind ((qm7 fuel _ oa).to fun r _=>Yl.ite (fun _=>Yl.getN (k:=1) c (Yl.bind ((qm7 fuel _ oa).to fun r _=>.ret trivial))) fun _=>.ret trivial))
theorem qvm{fuel:Nat}{op:Int}{a b:T}(d:1000000<fuel)(e:wt a≤200)(hb:wt b≤200):Yl (qeS fuel op a b) fun _=>True:=by
 unfold qeS;have c:Yl (qfy fuel a b) fun _=>True:=by
  unfold qfy;refine Yl.bind ((qm7 fuel a oa).to fun _ _=>Yl.ite (fun _=>.ret trivial) fun _=>Yl.bind ((qm7 fuel b oa).to fun _ _=>Yl.ite (fun _=>.ret trivial) fun _=>?_));refine Yl.bind (Yl.val (if_pos oa) (Yl.ite (fun _=>.ret trivial) fun _=>Yl.bind (Yl.val (if_pos oa) (Yl.ite (fun _=>.ret trivial) fun _=>?_))));refine Yl.bind (Yl.val (if_pos oa) (Yl.bind (Yl.val (if_pos oa) (Yl.ite (fun _=>?_) fun _=>?_))));exact Yl.bind (Yl.val (qf8 _) (.ret trivial));exact Yl.bind (Yl.val (qf8 _) (.ret trivial))
 refine Yl.bind (c.to fun _ _=>Yl.ite (fun _=>.ret trivial) fun _=>Yl.ite (fun _=>?_) fun _=>Yl.ite (fun _=>?_) fun _=>Yl.ite (fun _=>?_) fun _=>?_)<;>exact Yl.bind (Yl.val (qf8 _) (.ret trivial))
theorem qzB{g:Gl}(h:wtL g.ts≤1000000000):Yl (qfV g) fun r=>r=true→zu g=true∧5≤g.op∧g.op≤12:=by
 unfold qfV;refine Yl.ite (fun a=>Yl.ite (fun b=>Yl.bind (Yl.val (if_pos h) (.ret fun c=>⟨c,of_decide_eq_true a,of_decide_eq_true b⟩))) fun _=>.ret fun h=>by cases h) fun _=>.ret fun h=>by cases h
theorem qh4{g:Gl}(h:zu g=true)(a:g.op≠0):(g.ts.length:Int)=zO g.op:=by
 unfold zu at h;rw[if_neg a]at h;simp only[jk,decide_eq_true_eq]at h;exact h.1.2.symm
theorem qBA{fuel:Nat}{g:Gl}(j:10000000000<fuel)(h:wtL g.ts≤1000000000):Yl (qfr fuel g) fun _=>True:=by
 unfold qfr;refine Yl.bind ((qzB h).to fun r hr=>Yl.ite (fun _=>Yl.ite (fun _=>?_) fun _=>?_) fun l=>?_);exact Yl.bind (Yl.val (if_pos h) (Yl.bind (Yl.val (qf8 _) (.ret trivial))));exact Yl.bind (Yl.val (qf8 _) (.ret trivial));obtain⟨b,p,q⟩:=hr (by simpa using l);obtain⟨_,w⟩:=qdC b;have hl:=qh4 b oa;have m:1≤zO g.op∧(g.op≤10→zO g.op=2):=by
  unfold zO;split
  omega;split
  omega;split<;>omega
 have c:g.ts[0]? =some (g.ts[0]'(by omega)):=jj oa;have w0:=qdT (List.mem_of_getElem? c);refine Yl.getN (k:=0) c (Yl.ite (fun _=>Yl.ite (fun _=>.ret trivial) fun _=>?_) fun d=>Yl.ite (fun _=>?_) fun e=>?_);exact Yl.bind (Yl.val (qf8 _) (.ret trivial));exact Yl.bind (Yl.val (if_pos oa) (Yl.ite (fun _=>.ret trivial) fun _=>.ret trivial));have d:g.op≠11:=by simpa using d
 have e:g.op≠12:=by simpa using e
 have n:=m.2 oa;have a:g.ts[1]? =some (g.ts[1]'(by omega)):=jj oa;have w1:=qdT (List.mem_of_getElem? a);have o:Yl ((qbx fuel (g.ts[0]'(by omega)) (g.ts[1]'(by omega))).bind fun r=>bif !r then(qV (!(g.op==(5:Int)))).bind fun r=>some r else some 0) fun _=>True:=Yl.bind ((qsG j oa oa).to fun _ _=>Yl.ite (fun _=>Yl.bind (Yl.val (qf8 _) (.ret trivial))) fun _=>.ret trivial);have f:Yl ((qgQ (g.ts[0]'(by omega)) (g.ts[1]'(by omega))).bind fun r=>bif r then(qV (g.op==(5:Int))).bind fun r=>some r else(qbx fuel (g.ts[0]'(by omega)) (g.ts[1]'(by omega))).bind fun r=>bif !r then(qV (!(g.op==(5:Int)))).bind fun r=>some r else some 0) fun _=>True:=Yl.bind (Yl.val (if_pos oa) (Yl.ite (fun _=>Yl.bind (Yl.val (qf8 _) (.ret trivial))) fun _=>o));refine Yl.ite (fun _=>Yl.getN (k:=1) a f) fun _=>Yl.ite (fun _=>Yl.getN (k:=1) a f) fun _=>Yl.getN (k:=1) a ?_;exact Yl.bind ((qvm oa oa oa).to fun _ _=>.ret trivial)
theorem y_In{fuel:Nat}{b:List (Int×T)}{g:Gl}(c:10000000000<fuel)(hb:∀q∈b,wt q.2≤200)(h:wtL g.ts≤1000000):Yl (qjx fuel b [] g) fun _=>True:=by
 unfold qjx;refine Yl.bind ((qn1 hb oa oa).to fun r hr=>?_);have hw:=hr.2.2.2.1;have a:Yl ((qfr fuel r).bind fun r=>some r) fun _=>True:=Yl.bind ((qBA c oa).to fun _ _=>.ret trivial);exact Yl.bind ((qzB oa).to fun _ _=>Yl.ite (fun _=>a) fun _=>a)
theorem qDy(l:List qu)(f:qu):Yl (qfi l f) fun _=>True:=by
 unfold qfi;refine Yl.forL (I:=fun _ _=>True) l 0 () trivial (fun j q s b _ _ a=>?_) fun _ _=>.ret trivial;exact Yl.bind (Yl.val (quN q f) (Yl.ite (fun _=>.ret trivial) fun _=>a () trivial))
structure Cj(Z:Int→Prop)(c:qe)(r:qs)(hd:List At):Prop where
 b:∀q∈c.fo,wt q.2≤200
 f:0≤c.fg∧c.fg≤1048576
 s:∀x∈c.fh,∀t∈x.2.ts,TrP Z t
 h:hd.length≤40∧∀a∈hd,wtL a.ts≤200
 g:∀g∈r.fu,wtL g.ts≤200∧∀v∈zy g.ts,0≤v∧v≤1048576
abbrev JT:=qe×qD×Int×qs×List At×Int×List qv
theorem quB{Z:Int→Prop}{c:qe}{r:qs}{hd:List At}(h:Cj Z c r hd){fuel:Nat}{env:List (Int×T)}{o:qD}{id lim:Int}{fd:List qv}(e:10000000000<fuel)(he:∀q∈env,wt q.2≤200):Yl (qbR fuel r.fu env c o id r hd lim fd) fun x=>x.2=(c,o,id,r,hd,lim,fd):=by
 unfold qbR qbs qb9;refine Yl.bind (Yl.bind (Yl.to (Q':=fun x:Int×JT=>x.2=(c,o,id,r,hd,lim,fd)) ?_ fun x l=>.ret (.ret ?_)));refine Yl.forL (I:=fun _ s=>s=(c,o,id,r,hd,lim,fd)) r.fu 0 _ rfl (fun j q s p m a d=>?_) fun s a=>?_;subst a;have hq:=List.mem_of_getElem? m;obtain⟨t,n⟩:=h.g q hq;dsimp only;unfold qcF qbh;refine Yl.bind (Yl.bind (Yl.bind ((qj8 he h.f oa oa n).to fun u hu=>?_)));have:=hu.2.2.2.1;refine Yl.bind ((y_In e h.b oa).to fun v _=>.ret (.ret (Yl.ite (fun _=>.ret rfl) fun _=>d _ rfl)));subst a;exact .ret rfl;dsimp only;rw[l]
theorem qBd{Z:Int→Prop}{c:qe}{r:qs}{hd:List At}(h:Cj Z c r hd){fuel:Nat}{ids:List Int}{env:List (Int×T)}{o:qD}{id lim:Int}{fd:List qv}(b:10000000000<fuel)(he:∀q∈env,wt q.2≤200):Yl (qaT fuel ids env c o id r hd lim fd) fun x=>x.2=(c,o,id,r,hd,lim,fd):=by
 unfold qaT;refine Yl.bind (Yl.val (show qaU r=some _ from rfl) (Yl.ite (fun _=>?_) fun _=>?_));refine Yl.bind ((qDy _ _).to fun x _=>Yl.ite (fun _=>.ret rfl) fun _=>?_);refine Yl.bind ((quB h b he).to fun x a=>.ret ?_);dsimp only;rw[a];refine Yl.bind ((quB h b he).to fun x a=>.ret ?_);dsimp only;rw[a]
structure ChOk(Z:Int→Prop)(c:qe)(hd:List At)(x:qv):Prop where
 l:x.f0_ids.length=hd.length
 s:∀i∈x.f0_ids,i∈c.fh.map (·.1)
 e:∀q∈x.f1_env,TrP Z q.2
theorem qui{Z:Int→Prop}{c:qe}{r:qs}{hd:List At}(h:Cj Z c r hd){o:qD}{id:Int}:∀(fuel:Nat)(ids:List Int)(env:List (Int×T)),10000000001+(hd.length-ids.length)<fuel→ids.length≤hd.length→(∀i∈ids,i∈c.fh.map (·.1))→(∀q∈env,TrP Z q.2)→env.length≤200*ids.length→Yl (qaH fuel ids env c o id r hd 1 []) fun x=>∃fd,x=(c,o,id,r,hd,1,fd)∧fd.length≤1∧∀y∈fd,ChOk Z c hd y
 |0,_,_,u,_,_,_,_=>absurd u oa
 |fuel+1,ids,env,u,hl,hi,he,z=>by
  unfold qaH;dsimp only;have G:=h.h.1;refine Yl.ite (fun e=>?_) fun e=>?_;have e:ids.length=hd.length:=by
   have:(ids.length:Int)=(hd.length:Int):=by simpa using e
   omega
  refine Yl.bind ((qBd h oa fun q hq=>(he q hq).1).to fun x f=>?_);obtain⟨H,J⟩:=x;dsimp only at f;subst f;refine Yl.ite (fun _=>?_) fun _=>.ret ⟨[],rfl,by simp,fun y hy=>by cases hy⟩;refine Yl.bind (Yl.bind (Yl.appO oe (Yl.bind (Yl.appO og (.ret (.ret ⟨_,rfl,by simp,fun y hy=>?_⟩))))));have hy:y=⟨ids,env⟩:=by simpa using hy
  subst hy;exact⟨e,hi,he⟩;have e:ids.length<hd.length:=by
   have:¬(ids.length:Int)=(hd.length:Int):=by simpa using e
   omega
  refine Yl.forL (I:=fun _ x=>∃fd,x=(c,o,id,r,hd,1,fd)∧fd.length≤1∧∀y∈fd,ChOk Z c hd y) c.fh 0 _ ⟨[],rfl,by simp,fun y hy=>by cases hy⟩ (fun j q s K A n a=>?_) fun s n=>.ret n;obtain⟨fd,rfl,g,l⟩:=n;dsimp only;have hq:=List.mem_of_getElem? A;unfold qbS;rw[show decide ((1:Int)>0)=true from rfl,cond_true,jb];refine Yl.ite (fun _=>.ret ⟨fd,rfl,g,l⟩) fun v=>Yl.ite (fun _=>a _ ⟨fd,rfl,g,l⟩) fun _=>?_;have v:=of_decide_eq_false v;have p:fd=[]:=jG oa;subst p;have t:Yl (qK ids q.1) fun _=>True:=by
   unfold qK qb3;refine Yl.bind (Yl.to (Q':=fun _=>True) (Yl.forL (I:=fun _ _=>True) ids 0 () trivial (fun _ _ _ _ _ _ a=>Yl.ite (fun _=>.ret trivial) fun _=>a () trivial) fun _ _=>.ret trivial) fun _ _=>.ret trivial)
  refine Yl.bind (t.to fun b _=>Yl.ite (fun _=>a _ ⟨[],rfl,g,l⟩) fun _=>?_);have w:hd[ids.length]? =some (hd[ids.length]'e):=jj e;refine Yl.getN w (Yl.bind ((qsU he (h.s q hq) oa (h.h.2 _ (List.mem_of_getElem? w)) oa).to fun m hm=>Yl.ite (fun B=>?_) fun _=>a _ ⟨[],rfl,g,l⟩));obtain⟨m1,L⟩:=hm B;refine Yl.bind (Yl.subO ⟨by omega,by omega,by omega⟩ ?_);rw[jO,jF,Je,vJ];refine Yl.bind (Yl.appO (by simp only[jg,ji];omega) ?_);have C:(ids++[q.1]).length=ids.length+1:=by simp
  refine Yl.bind ((qui h fuel (ids++[q.1]) m.1 oa oa (fun i d=>?_) m1 oa).to fun x f=>?_);rcases jl.1 d with d|d
  exact hi i d;rw[jr.1 d];exact jM hq;obtain⟨fd,rfl,E,F⟩:=f;exact a _ ⟨fd,rfl,E,F⟩
noncomputable def stoB:Int→List (Int×At)→Bool |_,[]=>true |last,x::l=>decide (last<x.1)&&zn x.2&&stoB x.1 l
structure zbX(l:List (Int×At)):Prop where
 n:l.length≤500
 p:l.Pairwise fun x y=>x.1<y.1
 g:∀x∈l,0<x.1
 a:∀x∈l,zn x.2=true
theorem qtU:∀(l:List (Int×At))(last:Int),stoB last l=true↔(l.Pairwise fun x y=>x.1<y.1)∧(∀x∈l,last<x.1)∧∀x∈l,zn x.2=true
 |[],last=>by simp[stoB]
 |x::l,last=>by
  simp only[stoB,jk,decide_eq_true_eq,qtU l,List.pairwise_cons,jx,forall_eq_or_imp];constructor;rintro⟨⟨a,b⟩,c,d,e⟩;exact⟨⟨d,c⟩,⟨a,fun y hy=>by have:=d y hy;omega⟩,b,e⟩;rintro⟨⟨a,b⟩,⟨c,d⟩,e,f⟩;exact⟨⟨c,e⟩,b,a,f⟩
theorem qml(l:List (Int×At))(h:∀x∈l,wtL x.2.ts≤1000000000):Yl (qeF l) fun b=>b=true↔zbX l:=by
 unfold qeF;refine Yl.ite (fun d=>?_) fun d=>?_;have d:=of_decide_eq_true d;exact .ret ⟨fun h=>(by cases h),fun h=>absurd h.n oa⟩;have d:=of_decide_eq_false d;have key:∀(l:List (Int×At))(i:Nat)(last:Int),(∀x∈l,wtL x.2.ts≤1000000000)→forL (β:=Int) (fun _ f l2 j=>(bif(decide (f.1≤l2))then some false else((qdY f.2).bind fun o=>(bif(!o)then some false else(j f.1))))) (fun l2=>some true) i l last=some (stoB last l):=by
  intro l;induction l with
  |nil=>exact fun _ _ _=>rfl
  |cons x l q=>
   intro i last h;rw[forL,stoB];by_cases m:x.1≤last;have e:decide (last<x.1)=false:=decide_eq_false oa;rw[decide_eq_true m,e];rfl;rw[decide_eq_false m,decide_eq_true (show last<x.1 by omega),cond_false,show qdY x.2=some (zn x.2)from if_pos (h x (je ..)),jb];cases zn x.2 with
   |false=>rfl
   |true=>exact q (i+1) x.1 fun y hy=>h y (jp _ hy)
 refine Yl.val (key l 0 0 h) ?_;rw[qtU];exact⟨fun⟨a,b,c⟩=>⟨by omega,a,b,c⟩,fun h=>⟨h.p,h.g,h.a⟩⟩
theorem qzv(l:List (Int×At))(id:Int):Yl (qe7 l id) fun r=>(r.2=true↔id∈l.map (·.1))∧(r.2=true→(id,r.1)∈l):=by
 unfold qe7 qe2;rw[jb];unfold qae;rw[qf5 (fun q=>qdE q id) (fun q=>q.1==id) l (fun _ _=>rfl) fun _ _ _=>rfl];refine Yl.bind (Yl.ret (Yl.ite (fun h=>?_) fun h=>?_));have h:=of_decide_eq_true h;obtain⟨i,q,b,a,c⟩:=qqM h;rw[b];have hm:=List.mem_of_getElem? a;have hq:q.1=id:=by simpa using c
 refine Yl.getN a (.ret ⟨⟨fun _=>?_,fun _=>rfl⟩,fun _=>?_⟩);rw[←hq];exact jM hm;rw[←hq];exact hm;have h:=of_decide_eq_false h;refine .ret ⟨⟨fun h=>(by cases h),fun hm=>?_⟩,fun h=>by cases h⟩;obtain⟨q,hq,rfl⟩:=jt.1 hm;have:=qxC (g:=fun p:Int×At=>p.1==q.1) (l:=l) oa q hq;simp at this
structure SlB(b:List (Int×T)):Prop where
 asc:b.Pairwise fun q r=>q.1<r.1
 rg:∀q∈b,0≤q.1∧q.1≤1048576
 tm:∀q∈b,zT q.2=true
 vr:∀q∈b,∀w∈zX q.2,w∉dmB b
theorem qvw{m:List (Int×Unit)}{l:List Int}{x:Int}(h:zF m=l)(a:x∉l):zF (yo m x ())=l++[x]:=by
 rw[qgK,h,if_neg a]
theorem qpu{m:List (Int×Unit)}{x:Int}:(zk m x).isSome=true↔x∈zF m:=by
 cases hm:zk m x with
 |none=>
  have:=qjH.1 hm;simp[this]
 |some u=>simp[qtL hm]
theorem qmm(b:List (Int×T))(h:∀q∈b,wt q.2≤1000000000)(hn:b.length<1000000000):Yl (qeG b) fun r=>r=true↔SlB b:=by
 unfold qeG;have no:∀{x:Bool},(SlB b→False)→Yl (some false) fun r=>r=true↔SlB b:=fun L=>.ret ⟨fun h=>(by cases h),fun h=>(L h).elim⟩;refine Yl.forL (I:=fun i o=>zF o=(b.take i).map (·.1)∧(b.take i).Pairwise (fun q r=>q.1<r.1)∧∀q∈b.take i,(0≤q.1∧q.1≤1048576)∧zT q.2=true) b 0 [] ⟨rfl,List.Pairwise.nil,fun q hq=>by cases hq⟩ (fun i q o G hi d f=>?_) fun o d=>?_;rw[jc]at d f⊢;obtain⟨u,z,B⟩:=d;have hq:=List.mem_of_getElem? hi;have C:=(jd.1 hi).1;have c:b.take (i+1)=b.take i++[q]:=by rw[jI,hi];rfl
 have A:o.length<9223372036854775807:=by
  have:=congrArg List.length u;unfold zF at this;rw[jh,jh,jA]at this;omega
 refine Yl.ite (fun g=>no (x:=true) fun s=>absurd (s.rg q hq).1 (by have:=of_decide_eq_true g;omega)) fun H=>Yl.ite (fun g=>no (x:=true) fun s=>absurd (s.rg q hq).2 (by have:=of_decide_eq_true g;omega)) fun J=>?_;have H:=of_decide_eq_false H;have J:=of_decide_eq_false J;have cont:(∀p∈b.take i,p.1<q.1)→Yl ((qeM q.2).bind fun E=>bif !E then some false else(mputO o q.1 ()).bind fun m=>G m) fun r=>r=true↔SlB b:=fun hlt=>by
  refine Yl.bind (Yl.val (if_pos (h q hq)) (Yl.ite (fun g=>no (x:=true) fun s=>?_) fun g=>?_));rw[s.tm q hq]at g;cases g;refine Yl.bind (Yl.mputO A (f _ ⟨?_,?_,fun p a=>?_⟩));rw[qvw u,c,jJ];rfl;intro hm;obtain⟨p,a,e⟩:=jt.1 hm;have:=hlt p a;omega;rw[c];exact vO.2 ⟨z,JZ ..,fun p a r hr=>by rw[jr.1 hr];exact hlt p a⟩;rw[c]at a;rcases jl.1 a with a|a
  exact B p a;rw[jr.1 a];exact⟨⟨by omega,by omega⟩,by simpa using g⟩
 refine Yl.ite (fun g=>?_) fun g=>cont ?_;have g:=of_decide_eq_true g;rw[qex oa];obtain⟨k,rfl⟩:∃k,i=k+1:=⟨i-1,by omega⟩
 have M:((k+1:Nat):Int)-1=(k:Int):=by omega
 rw[M];have F:b[k]? =some (b[k]'(by omega)):=jj oa;refine Yl.getN F (Yl.ite (fun g=>no (x:=true) fun s=>?_) fun g=>cont fun p a=>?_);have g:=of_decide_eq_true g;have:=JG.1 s.asc k (k+1) oa C oa;have e:=(jd.1 hi).2;rw[e]at this;omega;have g:=of_decide_eq_false g;rw[jI,F]at a;rcases jl.1 a with a|a
 rw[jI,F]at z;have:=(vO.1 z).2.2 p a (b[k]'(by omega)) (jr.2 rfl);omega;have:p=b[k]'(by omega):=by simpa using a
 rw[this];omega;have g:=of_decide_eq_false g;have:i=0:=by omega
 subst this;intro p a;cases a;rw[jc,jF]at d;obtain⟨u,z,B⟩:=d;refine Yl.forL (I:=fun i _=>∀q∈b.take i,∀w∈zX q.2,w∉dmB b) b 0 () (fun q hq=>by cases hq) (fun i q _ G hi d f=>?_) fun _ d=>?_;rw[jc]at d f;have hq:=List.mem_of_getElem? hi;refine Yl.bind (Yl.val (if_pos (h q hq)) ?_);refine Yl.forL (I:=fun j _=>∀w∈(yt [] (zX q.2)).take j,w∉dmB b) _ 0 () (fun w hw=>by cases hw) (fun j w _ N K l n=>?_) fun _ l=>?_;rw[jc]at l n;refine Yl.ite (fun g=>no (x:=true) fun s=>?_) fun g=>n () fun v t=>?_;have hw:w∈yt [] (zX q.2):=List.mem_of_getElem? K;rw[qfY]at hw;refine s.vr q hq w (by simpa using hw) ?_;have:=qpu.1 g
 rwa [u]at this
 rw[jI,K]at t;rcases jl.1 t with t|t
 exact l v t;have:v=w:=by simpa using t
 subst this;intro hm;have:(zk o v).isSome=true:=qpu.2 (by rw[u];exact hm);rw[this]at g;cases g;rw[jc,jF]at l;refine f () fun p a=>?_;rw[jI,hi]at a;rcases jl.1 a with a|a
 exact d p a;have:p=q:=by simpa using a
 subst this;exact fun w hw=>l w (qfY.2 (.inr hw));rw[jc,jF]at d;exact .ret ⟨fun _=>⟨z,fun q hq=>(B q hq).1,fun q hq=>(B q hq).2,d⟩,fun _=>rfl⟩
def Fre(c:qe)(w:Int):Prop:=w<c.fg∧w∉dmB c.fo
def Dcl(p:qf)(n:ByteArray)(k:Nat):Prop:=(⟨n,(k:Int)⟩:S_api_Decl)∈p.fD
structure zbF(p:qf)(c:qe)(occs:Int)(f:qB):Prop where
 w:f.fj≠0→(0<f.fj∧f.fj<c.fl)∧(f.fi.op=0∧f.fi.n.toList=[]∧f.fi.ts=[])∧-1≤f.fA∧f.fA≤occs
 z:f.fj=0→f.fA=0∧zu f.fi=true∧(∀w∈zy f.fi.ts,Fre c w)∧((1≤f.fi.op∧f.fi.op≤4)∨f.fi.op=0∧Dcl p f.fi.n f.fi.ts.length)
structure zb9(p:qf)(c:qe)(x:Int×At):Prop where
 n:x.1<c.fl
 f:∀w∈zy x.2.ts,Fre c w
 d:Dcl p x.2.n x.2.ts.length
structure BnOk(c:qe)(q:Int×T):Prop where
 n:q.1<c.fg
 f:∀w∈zX q.2,w<c.fg
def zcb(p:qf)(c:qe)(f:qu):Prop:=∃r,getI p.fe f.fp=some r∧r.ft=[]∧f.ff.length=r.fm.length∧∀i∈f.ff,i∈c.fh.map (·.1)
structure StO(p:qf)(c:qe)(occs:Int):Prop where
 k:c.fk.length≤1000
 n:1≤c.fl∧c.fl≤2147483648
 f:0≤c.fg∧c.fg≤1048576
 s:zbX c.fh
 b:SlB c.fo
 h:zcJ c.fC
 fr:∀f∈c.fk,zbF p c occs f
 it:∀x∈c.fh,zb9 p c x
 bn:∀q∈c.fo,BnOk c q
 fc:∀f∈c.fC,zcb p c f
structure BgC(c:qe):Prop where
 s:∀x∈c.fh,wtL x.2.ts≤1000000000
 b:∀q∈c.fo,wt q.2≤1000000000
 n:c.fo.length<1000000000
 k:∀f∈c.fk,wtL f.fi.ts≤1000000000
end Go.Proofs.YtgcegilpajfdhaaGreat
namespace Go.Proofs.YtgcegilpajfdhaaGreat
open Go.Proofs.Tryz
set_option maxRecDepth 100000
open Go.RowKit
open Classical
theorem Yl.dec{o:Option Bool}{P:Prop}(h:Yl o fun r=>r=true↔P):o=some (decide P):=by
 obtain⟨r,rfl,h⟩:=h;congr 1
 by_cases hp:P;rw[h.2 hp];exact(decide_eq_true hp).symm;rw[decide_eq_false hp];cases r with
 |false=>rfl
 |true=>exact absurd (h.1 rfl) hp
theorem Yl.decS{σ:Type}{o:Option (Bool×σ)}{s:σ}{P:Prop}(h:Yl o fun r=>r.2=s∧(r.1=true↔P)):o=some (decide P,s):=by
 obtain⟨⟨r,s'⟩,rfl,h1,h⟩:=h;dsimp only at h1 h;subst h1;have:=Yl.dec (o:=some r) (P:=P) ⟨r,rfl,h⟩;injection this with this
 rw[this]
theorem qon{α:Type}{P:α→Prop}(l:List α):(l.all fun x=>decide (P x))=true↔∀x∈l,P x:=by simp
theorem qjU{P:Int→Prop}{l:List Int}:(∀w∈yt [] l,P w)↔∀w∈l,P w:=by
 constructor;exact fun h w hw=>h w (qfY.2 (.inr hw));exact fun h w hw=>h w (by simpa using qfY.1 hw)
section
variable{p:qf}{c:qe}{o:Int}{mm:List (Int×Unit)}
def BdM(c:qe)(mm:List (Int×Unit)):Prop:=∀v,(zk mm v).isSome=true↔v∈dmB c.fo
theorem qA6(hm:BdM c mm)(v:Int):qbk v c p o mm=some (decide (Fre c v)):=by
 refine Yl.dec ?_;unfold qbk;refine Yl.ite (fun h=>?_) fun h=>.ret ⟨fun h=>(by cases h),fun a=>?_⟩;have:v∉dmB c.fo:=fun b=>by
  rw[(hm v).2 b]at h;cases h
 refine .ret ?_;unfold Fre;simp[this];exact absurd ((hm v).1 (by simpa using h)) a.2
theorem qzF(hm:BdM c mm)(l:List Int):qaR c p o l mm=some (decide (∀v∈l,Fre c v),mm):=by
 unfold qaR qei qcz qda;rw[qm4 (fun q=>qcQ q c p o mm) (fun v=>!decide (Fre c v)) l (fun q hq=>by
  unfold qcQ;rw[qA6 hm];rfl) fun _ _ _=>rfl]
 simp only[jb,qhW,qeE];congr 2
 rw[jP,qon,decide_eq_true_iff]
theorem qlQ(l:List S_api_Decl)(n:ByteArray)(k:Int):qcx l n k=some (decide ((⟨n,k⟩:S_api_Decl)∈l)):=by
 unfold qcx qaE qa2;rw[qf5 (fun q=>some (decide ((⟨n,k⟩:S_api_Decl)=q))) (fun q=>decide ((⟨n,k⟩:S_api_Decl)=q)) l (fun _ _=>rfl) fun _ _ _=>rfl];simp only[jb,qhW];congr 1
 rw[jP,vC,decide_eq_true_iff];constructor;rintro⟨x,a,e⟩;have e:=of_decide_eq_true e;rw[e];exact a;exact fun h=>⟨_,h,decide_eq_true rfl⟩
theorem qA4(hm:BdM c mm)(f:qB)(hw:wtL f.fi.ts≤1000000000):qbr c p o f mm=some (decide (zbF p c o f),mm):=by
 refine Yl.decS ?_;unfold qbr;have no:∀{s:List (Int×Unit)},s=mm→(zbF p c o f→False)→Yl (some (false,s)) fun r=>r.2=mm∧(r.1=true↔zbF p c o f):=fun e x=>.ret ⟨e,fun h=>(by cases h),fun h=>(x h).elim⟩;refine Yl.ite (fun a=>?_) fun a=>?_;have a:f.fj≠0:=by simpa using a
 refine Yl.ite (fun j=>Yl.ite (fun l=>?_) fun l=>no rfl fun s=>?_) fun j=>no rfl fun s=>?_;have A:Yl (qed f.fi) fun b=>b=true↔(f.fi.op=0∧f.fi.n.toList=[]∧f.fi.ts=[]):=by
  unfold qed;refine Yl.ite (fun u=>Yl.ite (fun t=>.ret ?_) fun t=>.ret ⟨fun h=>(by cases h),fun h=>?_⟩) fun u=>.ret ⟨fun h=>(by cases h),fun h=>?_⟩;rw[qe5]at t;have u:f.fi.op=0:=by simpa using u
  have t:f.fi.n.toList=[]:=by simpa using t
  simp[u,t];rw[h.2.1,qe5]at t;cases t;rw[h.1]at u;cases u
 refine Yl.bind (A.to fun b hb=>Yl.ite (fun d=>Yl.ite (fun m=>.ret ⟨rfl,?_⟩) fun m=>no rfl fun s=>?_) fun d=>no rfl fun s=>?_);have j:=of_decide_eq_true j;have l:=of_decide_eq_true l;have m:=of_decide_eq_true m;rw[decide_eq_true_iff];exact⟨fun q=>⟨fun _=>⟨⟨by omega,by omega⟩,hb.1 d,by omega,q⟩,fun h=>absurd h a⟩,fun s=>(s.w a).2.2.2⟩;have:=(s.w a).2.2.1;have:=of_decide_eq_false m;omega;rw[hb.2 (s.w a).2.1]at d;cases d;have:=(s.w a).1.2;have:=of_decide_eq_false l;omega;have:=(s.w a).1.1;have:=of_decide_eq_false j;omega;have a:f.fj=0:=by simpa using a
 refine Yl.ite (fun j=>no rfl fun s=>?_) fun j=>?_;have:=(s.z a).1;have j:f.fA≠0:=by simpa using j
 omega;have j:f.fA=0:=by simpa using j
 refine Yl.bind (Yl.val (if_pos hw) (Yl.ite (fun l=>no rfl fun s=>?_) fun l=>?_));rw[(s.z a).2.1]at l;cases l;have l:zu f.fi=true:=by simpa using l
 refine Yl.bind (Yl.val (if_pos hw) (Yl.bind (Yl.val (qzF hm _) (Yl.ite (fun d=>no rfl fun s=>?_) fun d=>?_))));have d:¬∀v∈yt [] (zy f.fi.ts),Fre c v:=by simpa using d
 exact d (qjU.2 (s.z a).2.2.1);have d:∀v∈yt [] (zy f.fi.ts),Fre c v:=by simpa using d
 have d:=qjU.1 d;have hb:Yl (qbv f.fi) fun b=>b=true↔(1≤f.fi.op∧f.fi.op≤4):=by
  unfold qbv;refine Yl.ite (fun g=>.ret ?_) fun g=>.ret ⟨fun h=>(by cases h),fun h=>?_⟩;have g:=of_decide_eq_true g;rw[decide_eq_true_iff];exact⟨fun h=>⟨by omega,h⟩,fun h=>h.2⟩;have g:=of_decide_eq_false g;omega
 refine Yl.bind (hb.to fun b hb=>Yl.ite (fun m=>.ret ⟨rfl,fun _=>⟨fun h=>absurd a h,fun _=>⟨j,l,d,.inl (hb.1 m)⟩⟩,fun _=>rfl⟩) fun m=>Yl.ite (fun q=>?_) fun q=>no rfl fun s=>?_);have q:f.fi.op=0:=by simpa using q
 refine Yl.bind (Yl.val (qlQ _ _ _) (.ret ⟨rfl,?_⟩));rw[decide_eq_true_iff];exact⟨fun h=>⟨fun h=>absurd a h,fun _=>⟨j,l,d,.inr ⟨q,h⟩⟩⟩,fun s=>(s.z a).2.2.2.elim (fun h=>absurd h oa) fun h=>h.2⟩;rcases(s.z a).2.2.2 with h|h
 rw[hb.2 h]at m;cases m;rw[h.1]at q;cases q
theorem qyU(hm:BdM c mm)(l:List qB)(hw:∀f∈l,wtL f.fi.ts≤1000000000):qds l c p o mm=some (decide (∀f∈l,zbF p c o f),mm):=by
 unfold qds qcD qdk;rw[qmW (fun q=>qcH q c p o mm) (fun v=>!decide (zbF p c o v)) l (fun q hq=>by
  unfold qcH;rw[qA4 hm q (hw q hq)];rfl) fun _ _ _=>rfl]
 simp only[jb,qhW,qeE];congr 2
 rw[jP,qon,decide_eq_true_iff]
theorem qBZ(hm:BdM c mm)(x:Int×At)(hw:wtL x.2.ts≤1000000000):qbE c p o x mm=some (decide (zb9 p c x),mm):=by
 refine Yl.decS ?_;unfold qbE;have no:∀{s:List (Int×Unit)},s=mm→(zb9 p c x→False)→Yl (some (false,s)) fun r=>r.2=mm∧(r.1=true↔zb9 p c x):=fun e g=>.ret ⟨e,fun h=>(by cases h),fun h=>(g h).elim⟩;refine Yl.ite (fun b=>?_) fun b=>no rfl fun s=>absurd s.n (of_decide_eq_false b);refine Yl.bind (Yl.val (if_pos hw) (Yl.bind (Yl.val (qzF hm _) (Yl.ite (fun a=>?_) fun a=>no rfl fun s=>?_))));have a:∀v∈yt [] (zy x.2.ts),Fre c v:=by simpa using a
 refine Yl.bind (Yl.val (qlQ _ _ _) (.ret ⟨rfl,?_⟩));rw[decide_eq_true_iff];exact⟨fun h=>⟨of_decide_eq_true b,qjU.1 a,h⟩,fun s=>s.d⟩;have a:¬∀v∈yt [] (zy x.2.ts),Fre c v:=by simpa using a
 exact a (qjU.2 s.f)
theorem qzP(hm:BdM c mm)(l:List (Int×At))(hw:∀x∈l,wtL x.2.ts≤1000000000):qdK l c p o mm=some (decide (∀x∈l,zb9 p c x),mm):=by
 unfold qdK qcr qdh;rw[qmW (fun q=>qcO q c p o mm) (fun v=>!decide (zb9 p c v)) l (fun q hq=>by
  unfold qcO;rw[qBZ hm q (hw q hq)];rfl) fun _ _ _=>rfl]
 simp only[jb,qhW,qeE];congr 2
 rw[jP,qon,decide_eq_true_iff]
theorem qvR(q:Int×T)(hw:wt q.2≤1000000000):qa0 c p o q mm=some (decide (BnOk c q),mm):=by
 refine Yl.decS ?_;unfold qa0;refine Yl.ite (fun a=>?_) fun a=>.ret ⟨rfl,fun h=>(by cases h),fun s=>absurd s.n (of_decide_eq_false a)⟩;refine Yl.bind (Yl.val (if_pos hw) ?_);unfold qel qcm qdb;rw[qm4 (fun q=>qdX q c p o mm) (fun v=>!decide (v<c.fg)) _ (fun _ _=>rfl) fun _ _ _=>rfl];simp only[jb,qhW,qeE];refine .ret ⟨rfl,?_⟩;show List.all _ _=true↔_;rw[jD];simp only[decide_eq_true_eq];exact⟨fun h=>⟨of_decide_eq_true a,qjU.1 h⟩,fun s=>qjU.2 s.f⟩
theorem qvo(l:List (Int×T))(hw:∀q∈l,wt q.2≤1000000000):qdt l c p o mm=some (decide (∀q∈l,BnOk c q),mm):=by
 unfold qdt qcl qdd;rw[qmW (fun q=>qcP q c p o mm) (fun v=>!decide (BnOk c v)) l (fun q hq=>by
  unfold qcP;rw[qvR q (hw q hq)];rfl) fun _ _ _=>rfl]
 simp only[jb,qhW,qeE];congr 2
 rw[jP,qon,decide_eq_true_iff]
theorem qBH(f:qu)(m:0≤f.fp):qbI c p o f mm=some (decide (zcb p c f),mm):=by
 refine Yl.decS ?_;unfold qbI;have no:∀{s:List (Int×Unit)},s=mm→(zcb p c f→False)→Yl (some (false,s)) fun r=>r.2=mm∧(r.1=true↔zcb p c f):=fun e l=>.ret ⟨e,fun h=>(by cases h),fun h=>(l h).elim⟩;obtain⟨k,j⟩:∃k:Nat,f.fp=(k:Int):=⟨f.fp.toNat,by omega⟩
 refine Yl.ite (fun b=>no rfl fun s=>?_) fun b=>?_;obtain⟨r,hr,_⟩:=s;have b:=of_decide_eq_true b;rw[j,qfo]at hr;have:=(jd.1 hr).1;omega;have b:=of_decide_eq_false b;have hr:p.fe[k]? =some (p.fe[k]'(by omega)):=jj oa;have g:getI p.fe f.fp=some (p.fe[k]'(by omega)):=by rw[j,qgn hr]
 have inv:zcb p c f→(p.fe[k]'(by omega)).ft=[]∧f.ff.length=(p.fe[k]'(by omega)).fm.length∧∀i∈f.ff,i∈c.fh.map (·.1):=fun s=>by
  obtain⟨r,hr,a⟩:=s;rw[g]at hr;cases hr;exact a
 rw[g,jb];refine Yl.bind (Yl.val (show qaU _=some _ from rfl) (Yl.ite (fun a=>Yl.ite (fun d=>?_) fun d=>no rfl fun s=>?_) fun a=>no rfl fun s=>?_));have a:(p.fe[k]'(by omega)).ft=[]:=by simpa using a
 have d:(f.ff.length:Int)=((p.fe[k]'(by omega)).fm.length:Int):=by simpa using d
 unfold qek qcn qde;rw[qm4 (fun q=>qcG q c p o mm) (fun i=>!decide (i∈c.fh.map (·.1))) _ (fun q hq=>by
  unfold qcG qce;obtain⟨r,e,b,_⟩:=qzv c.fh q;rw[e,jb,jb];congr 2
  rw[jP,b,decide_eq_true_iff]) fun _ _ _=>rfl]
 simp only[jb,qhW,qeE];refine .ret ⟨rfl,?_⟩;show List.all _ _=true↔_;rw[jD];simp only[decide_eq_true_eq];exact⟨fun h=>⟨_,g,a,by omega,h⟩,fun s=>(inv s).2.2⟩;rw[(inv s).2.1]at d;simp at d;rw[(inv s).1]at a;cases a
theorem qAk(l:List qu)(hw:∀f∈l,0≤f.fp):qdw l c p o mm=some (decide (∀f∈l,zcb p c f),mm):=by
 unfold qdw qco qdj;rw[qmW (fun q=>qcK q c p o mm) (fun v=>!decide (zcb p c v)) l (fun q hq=>by
  unfold qcK;rw[qBH q (hw q hq)];rfl) fun _ _ _=>rfl]
 simp only[jb,qhW,qeE];congr 2
 rw[jP,qon,decide_eq_true_iff]
end
def zaq(p:qf):Int:=(((yD p).map (·.1)).length:Int)
def ScOk(p:qf):Prop:=∃k,qdp p=some (k,0)
theorem qxl{p:qf}{c:qe}(F:Yl (qdp p) fun _=>True)(G:(yD p).length<1000000000∧∀r∈p.fe,(zm r).length<1000000000)(a:BgC c):Yl (qbO p c) fun b=>b=true↔ScOk p∧StO p c (zaq p):=by
 unfold qbO;have no:∀{P:Prop},(P→False)→Yl (some false) fun r=>r=true↔P:=fun H=>.ret ⟨fun h=>(by cases h),fun h=>(H h).elim⟩;obtain⟨⟨k,e⟩,j,_⟩:=F;refine Yl.bind (Yl.val j (Yl.ite (fun h=>no fun s=>?_) fun l=>?_));obtain⟨O,w⟩:=s.1;rw[j]at w;cases w;cases h;have l:e=0:=by simpa using l
 subst l;refine Yl.ite (fun h=>no fun s=>absurd s.2.k (by have:=of_decide_eq_true h;omega)) fun x=>Yl.ite (fun h=>no fun s=>absurd s.2.n.1 (by have:=of_decide_eq_true h;omega)) fun z=>Yl.ite (fun h=>no fun s=>absurd s.2.n.2 (by have:=of_decide_eq_true h;omega)) fun A=>Yl.ite (fun h=>no fun s=>absurd s.2.f.1 (by have:=of_decide_eq_true h;omega)) fun B=>Yl.ite (fun h=>no fun s=>absurd s.2.f.2 (by have:=of_decide_eq_true h;omega)) fun C=>?_;have x:=of_decide_eq_false x;have z:=of_decide_eq_false z;have A:=of_decide_eq_false A;have B:=of_decide_eq_false B;have C:=of_decide_eq_false C;refine Yl.bind ((qml _ a.s).to fun b hb=>Yl.ite (fun h=>no fun s=>?_) fun h=>?_);rw[hb.2 s.2.s]at h;cases h;have J:=hb.1 (by simpa using h);refine Yl.bind ((qmm _ a.b a.n).to fun b hb=>Yl.ite (fun h=>no fun s=>?_) fun h=>?_);rw[hb.2 s.2.b]at h;cases h;have K:=hb.1 (by simpa using h);refine Yl.bind ((qkb _).to fun b hb=>Yl.ite (fun h=>no fun s=>?_) fun h=>?_);rw[hb.2 s.2.h]at h;cases h;have E:=hb.1 (by simpa using h);refine Yl.bind (Yl.val (if_pos G) ?_);refine Yl.forL (I:=fun i mm=>mm.length≤i∧∀v,v∈zF mm↔v∈(c.fo.take i).map (·.1)) c.fo 0 [] ⟨jf _,fun v=>by simp[zF]⟩ (fun i q mm Q hi d g=>?_) fun mm d=>?_;rw[jc]at d g;have L:=(jd.1 hi).1;have:=a.n;refine Yl.bind (Yl.mputO oa (g _ ⟨?_,fun v=>?_⟩));have:=qld mm q.1 ();omega;rw[qgK,jI,hi,jJ,jl,←d.2 v];split
 rename_i hm
 constructor;exact .inl;rintro(h|h);exact h;have:v=q.1:=by simpa using h
 rw[this];exact hm;simp;rw[jc,jF]at d;have hm:BdM c mm:=fun v=>by rw[qpu];exact d.2 v
 refine Yl.bind (Yl.val (qyU hm _ a.k) (Yl.ite (fun M=>?_) fun h=>no fun s=>of_decide_eq_false h s.2.fr));refine Yl.bind (Yl.val (qzP hm _ a.s) (Yl.ite (fun m=>?_) fun h=>no fun s=>of_decide_eq_false h s.2.it));refine Yl.bind (Yl.val (qvo _ a.b) (Yl.ite (fun t=>?_) fun h=>no fun s=>of_decide_eq_false h s.2.bn));refine Yl.bind (Yl.val (qAk _ fun f N=>(E.v f N).r.1) (.ret ?_));rw[decide_eq_true_iff];exact⟨fun u=>⟨⟨k,j⟩,by omega,⟨by omega,by omega⟩,⟨by omega,by omega⟩,J,K,E,of_decide_eq_true M,of_decide_eq_true m,of_decide_eq_true t,u⟩,fun s=>s.2.fc⟩
end Go.Proofs.YtgcegilpajfdhaaGreat
namespace Go.Proofs.YtgcegilpajfdhaaGreat
open Go.Proofs.Tryz
set_option maxRecDepth 100000
open Go.RowKit
theorem SlB.wt{b:List (Int×T)}(h:SlB b):∀q∈b,wt q.2≤200:=fun q hq=>(qg2 (h.tm q hq)).2
theorem SlB.len{b:List (Int×T)}(h:SlB b):b.length≤1048577:=by
 have hn:(b.map (·.1)).Nodup:=by
  refine Jh.2 (h.asc.imp fun{x y} a=>?_);exact fun e=>by omega
 have:=qg7 (n:=1048577) hn fun x c=>by
  obtain⟨q,hq,rfl⟩:=jt.1 c;have:=h.rg q hq;exact⟨q.1.toNat,by omega,by omega⟩
 rwa [jh]at this
theorem qms{b:List (Int×T)}{s t:T}(hb:SlB b)(hs:wt s≤1000000000)(d:wt t≤1000000000):Yl (qeH b [s,t]) fun _=>True:=by
 unfold qeH;refine Yl.forL (I:=fun _ _=>True) [s,t] 0 () trivial (fun j q _ e c _ a=>?_) fun _ _=>?_;have:wt q≤1000000000:=by
  have:=List.mem_of_getElem? c;simp only[jx,List.not_mem_nil,or_false]at this;rcases this with rfl|rfl<;>assumption
 exact Yl.bind (Yl.val (if_pos this) (Yl.ite (fun _=>.ret trivial) fun _=>a () trivial));have:=hb.len;exact Yl.bind ((qmm b (fun q hq=>by have:=hb.wt q hq;omega) oa).to fun _ _=>.ret trivial)
theorem qCj(s t:T)(l m:List T)(hl:l.length≤10000000)(hm:m.length≤10000000):qag s t l m=some (l++[s],m++[t]):=by
 unfold qag;rw[qeL (by simp only[jg,ji];omega) (by simp only[jg,ji];omega),jb,qeL (by simp only[jg,ji];omega) (by simp only[jg,ji];omega)];rfl
theorem qrn{F:Int}{fuel:Nat}{b:List (Int×T)}{s t:T}(j:10000000000<fuel)(hb:SlB b)(hF:∀q∈b,q.1<F∧∀w∈zX q.2,w<F)(hs:TmF F s)(a:TmF F t):Yl (qfj fuel b s t) fun r=>r.2=0→SlF F r.1:=by
 unfold qfj;have hl:=hb.len;refine Yl.forL (I:=fun i x=>(x.1.length=i∧x.2.length=i)∧(∀t∈x.1,TmF F t)∧∀t∈x.2,TmF F t) b 0 _ ⟨⟨rfl,rfl⟩,fun t a=>(by cases a),fun t a=>(by cases a)⟩ (fun i q x o hi h e=>?_) fun x h=>?_;obtain⟨l,m⟩:=x;obtain⟨⟨c,d⟩,f,g⟩:=h;dsimp only at c d f g⊢;rw[jc]at c d e;have n:=(jd.1 hi).1;have hq:=List.mem_of_getElem? hi;refine Yl.bind (Yl.ret (Yl.bind (Yl.val (qCj _ _ _ _ oa oa) (e _ ⟨⟨by simp[c],by simp[d]⟩,fun t a=>?_,fun t a=>?_⟩))));rcases jl.1 a with a|a
 exact f t a;rw[jr.1 a];refine⟨by simp[wt,wtL],fun w hw=>?_⟩;have:w=q.1:=by simpa[zX]using hw
 rw[this];exact(hF q hq).1;rcases jl.1 a with a|a
 exact g t a;rw[jr.1 a];have:=hb.wt q hq;exact⟨by omega,(hF q hq).2⟩;obtain⟨l,m⟩:=x;obtain⟨⟨c,d⟩,f,g⟩:=h;dsimp only at c d f g⊢;rw[jc]at c d;refine Yl.bind (Yl.val (qCj _ _ _ _ oa oa) ?_);refine Yl.bind ((qBl (F:=F) j (fun t a=>?_) (fun u hu=>?_) oe).to fun r hr=>.ret hr);rcases jl.1 a with a|a
 exact f t a;rw[jr.1 a];exact hs;rcases jl.1 hu with hu|hu
 exact g u hu;rw[jr.1 hu];exact a
theorem SlF.len{F:Int}{b:List (Int×T)}(h:SlF F b):b.length≤1048577:=SlB.len ⟨h.asc,fun q hq=>⟨(h.rg q hq).1,(h.rg q hq).2.1⟩,h.tm,fun q hq w hw=>(h.vr q hq w hw).2⟩
theorem qzk{F:Int}{fuel:Nat}{b:List (Int×T)}{s t:T}(A:10000000000<fuel)(hb:SlB b)(hF:∀q∈b,q.1<F∧∀w∈zX q.2,w<F)(hs:TmF F s)(o:TmF F t):Yl (qeZ fuel b s t) fun r=>r.2.2=0→SlF F r.1∧r.2.1.length≤1048577:=by
 unfold qeZ;have hl:=hb.len;refine Yl.bind ((qms hb hs.1 o.1).to fun _ _=>Yl.ite (fun _=>.ret fun h=>by cases h) fun _=>?_);refine Yl.bind ((qrn A hb hF hs o).to fun r hr=>Yl.ite (fun h=>.ret fun p=>?_) fun h=>?_);dsimp only at p;rw[p]at h;cases h;have u:=hr (by simpa using h);have B:=u.len;refine Yl.forL (I:=fun i x=>x.1.length≤i∧∃k:Nat,x.2=(k:Int)∧k≤b.length) r.1 0 _ ⟨jf _,0,rfl,ju _⟩ (fun i q x C hi m a=>?_) fun x m=>?_;obtain⟨bd,K⟩:=x;obtain⟨v,k,z,E⟩:=m;dsimp only at v z⊢;subst z;rw[jc]at v a;have G:=(jd.1 hi).1;refine Yl.jn (J:=fun x=>∃k:Nat,x=(k:Int)∧k≤b.length) (fun kk c=>?_) fun x n=>?_;refine Yl.forF (I:=fun x=>∃k:Nat,x=(k:Int)∧k≤b.length) (μ:=fun x=>b.length-x.toNat) (fun x H n IH=>?_) fuel _ ⟨k,rfl,E⟩ oe;obtain⟨j,rfl,d⟩:=n;refine Yl.ite (fun g=>?_) fun _=>c _ ⟨j,rfl,d⟩;have g:=of_decide_eq_true g;refine Yl.getN (jj oa) (Yl.ite (fun _=>?_) fun _=>c _ ⟨j,rfl,d⟩);rw[qex oa];exact IH _ ⟨j+1,by omega,by omega⟩ (by simp only[jO];omega);obtain⟨j,rfl,d⟩:=n;have f:∀x:Int,Yl ((appO 8 bd [q.1]).bind fun l=>C (l,(j:Int))) fun r=>r.2.2=0→SlF F r.1∧r.2.1.length≤1048577:=fun _=>Yl.bind (Yl.appO (by simp only[jg,ji];omega) (a _ ⟨by simp;omega,j,rfl,d⟩));refine Yl.ite (fun _=>f 0) fun g=>?_;have g:j≠b.length:=fun e=>by
  rw[e]at g;simp at g
 exact Yl.getN (jj oa) (Yl.ite (fun _=>f 0) fun _=>a _ ⟨by dsimp only;omega,j,rfl,d⟩);exact .ret fun _=>⟨u,by have:=m.1;dsimp only;omega⟩
theorem qzd{F:Int}{fuel:Nat}{b:List (Int×T)}{s t:T}(c:10000000000<fuel)(hb:SlB b)(hF:∀q∈b,q.1<F∧∀w∈zX q.2,w<F)(hs:TmF F s)(d:wt t≤1000):Yl (qeR fuel b s t) fun r=>r.2.2=0→SlF F r.1∧r.2.1.length≤1048577:=by
 unfold qeR;refine Yl.bind ((qms hb hs.1 oa).to fun _ _=>Yl.ite (fun _=>.ret fun h=>by cases h) fun _=>?_);refine Yl.bind ((qAq hb.wt oa oa).to fun u hu=>?_);have:=hu.1;refine Yl.bind (Yl.val (if_pos oa) (Yl.ite (fun h=>.ret fun a=>?_) fun _=>?_));dsimp only at a;rw[a]at h;cases h;refine Yl.bind (Yl.ret (Yl.bind ((qzk c hb hF hs ⟨by simp[wt,wtL],fun w hw=>?_⟩).to fun r hr=>.ret hr)));simp[zX]at hw
theorem qCt{F:Int}{fuel:Nat}{b:List (Int×T)}{g:Gl}(d:10000000000<fuel)(hb:SlB b)(hF:∀q∈b,q.1<F∧∀w∈zX q.2,w<F)(e:zu g=true)(f:∀w∈zy g.ts,w<F):Yl (qeW fuel b g) fun r=>r.2.2.2=0→r.2.2.1=true→SlF F r.1∧r.2.1.length≤1048577:=by
 unfold qeW;obtain⟨_,hw⟩:=qdC e;have args:(g.op=3∨g.op=4)→∃s t,g.ts[0]? =some s∧g.ts[1]? =some t∧(TmF F s∧wt s≤200)∧TmF F t∧wt t≤200:=fun h=>by
  have hl:=qh4 e oa;have m:zO g.op=2:=by rcases h with h|h<;>rw[h]<;>rfl
  have a:g.ts[0]? =some (g.ts[0]'(by omega)):=jj oa;have c:g.ts[1]? =some (g.ts[1]'(by omega)):=jj oa;have j:=List.mem_of_getElem? a;have m1:=List.mem_of_getElem? c;have w0:=qdT j;have w1:=qdT m1;exact⟨_,_,a,c,⟨⟨by omega,fun w hw=>f w (qfZ.2 ⟨_,j,hw⟩)⟩,by omega⟩,⟨by omega,fun w hw=>f w (qfZ.2 ⟨_,m1,hw⟩)⟩,by omega⟩
 refine Yl.ite (fun _=>.ret fun _ _=>⟨⟨hb.asc,fun q hq=>⟨(hb.rg q hq).1,(hb.rg q hq).2,(hF q hq).1⟩,hb.tm,fun q hq w hw=>⟨(hF q hq).2 w hw,hb.vr q hq w hw⟩⟩,by simp⟩) fun _=>Yl.ite (fun h=>?_) fun _=>Yl.ite (fun h=>?_) fun _=>.ret fun _ h=>by cases h
 have h:g.op=3:=by simpa using h
 obtain⟨s,t,a,c,⟨hs,_⟩,l,_⟩:=args (.inl h);refine Yl.getN (k:=0) a (Yl.getN (k:=1) c (Yl.bind ((qzk d hb hF hs l).to fun r hr=>Yl.ite (fun h=>.ret fun _ h=>by cases h) fun h=>.ret fun _ h=>hr ?_)));simpa using h;have h:g.op=4:=by simpa using h
 obtain⟨s,t,a,c,⟨hs,_⟩,_,l⟩:=args (.inr h);refine Yl.getN (k:=0) a (Yl.getN (k:=1) c (Yl.bind ((qzd d hb hF hs oa).to fun r hr=>Yl.ite (fun h=>.ret fun _ h=>by cases h) fun h=>.ret fun _ h=>hr ?_)));simpa using h
end Go.Proofs.YtgcegilpajfdhaaGreat
namespace Go.Proofs.YtgcegilpajfdhaaGreat
open Go.Proofs.Tryz
set_option maxRecDepth 100000
open Go.RowKit
open Classical
structure zcB(p:qf)(r:qs):Prop where
 hd:1≤r.fm.length+r.ft.length∧r.fm.length+r.ft.length≤4
 gl:r.fu.length≤12∧r.fx.length≤12
 ra:∀a∈zm r,zn a=true
 rg:∀g∈r.fu++r.fx,zu g=true
 vr:∀g∈r.fx,∀v∈zy g.ts,v<r.fF
 vn:0≤r.fF∧r.fF≤1048576
 bd:∀g∈r.fx,g.op≤4∧(g.op=0→Dcl p g.n g.ts.length)
 nm:r.fy.size≤40
 vb:r.fF≤200*(r.fm.length+r.ft.length+r.fu.length+r.fx.length:Nat)
structure zbV(p:qf):Prop where
 dl:p.fD.length≤30
 dc:∀d∈p.fD,d.fy.size≤40∧0≤d.fH∧d.fH≤6
 rl:p.fe.length≤40
 ru:∀r∈p.fe,zcB p r
theorem qyH:∀{l:List T},zQ l=true→∀v∈zy l,0≤v∧v≤1048576:=by
 have key:∀(n:Nat)(l:List T),wtL l≤n→zQ l=true→∀v∈zy l,0≤v∧v≤1048576:=by
  intro n;induction n with
  |zero=>
   intro l hl g v a;cases l with
   |nil=>cases a
   |cons t l=>
    have:=qd4 t;simp only[wtL]at hl;omega
  |succ n d=>
   intro l hl g v a;obtain⟨t,h,a⟩:=qfZ.1 a;have b:=qhU g t h;have hw:=qdT h;have f:=qd4 t;by_cases e:t.k=1;obtain⟨_,c,j⟩:=quD b e;rw[qjQ e]at a;rw[jr.1 a];exact⟨c,j⟩;obtain⟨_,c,_⟩:=qqi b e;rw[qfR e,T.used]at a;split at a
   refine d t.ar oa ?_ v a;clear a d hw f;generalize t.ar=m at c;induction m with
   |nil=>rfl
   |cons x m d=>simp only[zQ,jk];exact⟨c x (je ..),d fun q hq=>c q (jp _ hq)⟩
   cases a
 exact fun{l}=>key (wtL l) l (jf _)
theorem qlR{g:Gl}(h:zu g=true):∀v∈zy g.ts,0≤v∧v≤1048576:=qyH (qdC h).1
theorem qA2(l:List qu)(ids:List Int)(hn:ids.length≤1000000)(hl:l.length≤1000000):Yl (qey l ids) fun r=>r.Sublist l∧∀f∈r,∀i∈f.ff,i∈ids:=by
 unfold qey;refine Yl.forL (I:=fun i t=>t.length≤i∧∀x b,zk t x=some b→x∈ids) ids 0 [] ⟨jf _,fun x b h=>by cases h⟩ (fun i q t A hi d a=>?_) fun t d=>?_;rw[jc]at d a;have w:=(jd.1 hi).1;refine Yl.bind (Yl.mputO oa (a _ ⟨?_,fun x b h=>?_⟩));have:=qld t q true;omega;rw[qa1]at h;split at h
 rename_i e
 rw[←e];exact List.mem_of_getElem? hi;exact d.2 x b h;have B:=d.2;refine Yl.forL (I:=fun i s=>s.2=t∧s.1.Sublist (l.take i)∧∀f∈s.1,∀x∈f.ff,x∈ids) l 0 _ ⟨rfl,List.Sublist.refl _,fun f p=>by cases p⟩ (fun i q s A hi d a=>?_) fun s d=>?_;obtain⟨out,m⟩:=s;obtain⟨z,n,u⟩:=d;dsimp only at z n u⊢;subst z;rw[jc]at n a;have w:=(jd.1 hi).1;have c:l.take (i+1)=l.take i++[q]:=by rw[jI,hi];rfl
 have C:out.length≤i:=by
  have:=n.length_le;rw[jA]at this;omega
 have skip:Yl (A (out,m)) fun r=>r.Sublist l∧∀f∈r,∀i∈f.ff,i∈ids:=a _ ⟨rfl,by rw[c];exact n.trans (List.sublist_append_left ..),u⟩;refine Yl.forL (I:=fun j _=>∀x∈q.ff.take j,x∈ids) q.ff 0 () (fun x E=>by cases E) (fun j x _ F G v o=>?_) fun _ v=>?_;rw[jc]at v o;refine Yl.ite (fun _=>skip) fun g=>o () fun y hy=>?_;rw[jI,G]at hy;rcases jl.1 hy with hy|hy
 exact v y hy;have:y=x:=by simpa using hy
 subst this;cases hm:zk m y with
 |none=>
  rw[hm]at g;cases g
 |some b=>exact B y b hm
 rw[jc,jF]at v;refine Yl.bind (Yl.appO (by simp only[jg,ji];omega) (a _ ⟨rfl,?_,fun f p=>?_⟩));rw[c];exact n.append_right [q];rcases jl.1 p with p|p
 exact u f p;rw[jr.1 p];exact v;obtain⟨z,n,u⟩:=d;rw[jc,jF]at n;exact .ret ⟨n,u⟩
theorem qrm:∀{a b:List Int},¬zaH a b<0→zaH a b≠0→zaH b a<0
 |[],[],_,h=>absurd rfl h
 |[],_::_,h,_=>absurd (by simp[zaH]) h
 |_::_,[],_,_=>by simp[zaH]
 |x::a,y::b,c,d=>by
  unfold zaH at c d⊢;by_cases e:cpI x y=0;have f:cpI y x=0:=qdS.2 (qdS.1 e).symm;rw[if_neg (by simp[e])]at c d;rw[if_neg (by simp[f])];exact qrm c d;have g:x≠y:=fun h=>e (qdS.2 h);have f:cpI y x≠0:=fun h=>g (qdS.1 h).symm;rw[if_pos e]at c;have:¬x<y:=fun h=>c (qeK.2 h);rw[if_pos f];exact qeK.2 oa
theorem qyc{a b:qu}(c:¬cpF a b<0)(f:cpF a b≠0):cpF b a<0:=by
 unfold cpF at c f⊢;by_cases e:cpI a.fp b.fp=0;have g:cpI b.fp a.fp=0:=qdS.2 (qdS.1 e).symm;rw[if_neg (by simp[e])]at c f;rw[if_neg (by simp[g])];by_cases d:cpI (a.ff.length:Int) (b.ff.length:Int)=0;have d2:cpI (b.ff.length:Int) (a.ff.length:Int)=0:=qdS.2 (qdS.1 d).symm;rw[if_neg (by simp[d])]at c f;rw[if_neg (by simp[d2])];exact qrm c f;have d3:(a.ff.length:Int)≠(b.ff.length:Int):=fun h=>d (qdS.2 h);have d2:cpI (b.ff.length:Int) (a.ff.length:Int)≠0:=fun h=>d3 (qdS.1 h).symm;rw[if_pos d]at c;have:¬(a.ff.length:Int)<(b.ff.length:Int):=fun h=>c (qeK.2 h);rw[if_pos d2];exact qeK.2 oa;have j:a.fp≠b.fp:=fun h=>e (qdS.2 h);have g:cpI b.fp a.fp≠0:=fun h=>j (qdS.1 h).symm;rw[if_pos e]at c;have:¬a.fp<b.fp:=fun h=>c (qeK.2 h);rw[if_pos g];exact qeK.2 oa
theorem qzM{α:Type}{g:α→Bool}:∀{l:List α}{x:α},x∈l.takeWhile g→g x=true
 |y::l,x,h=>by
  rw[JL]at h;split at h
  rename_i hy
  rcases jx.1 h with rfl|h
  exact hy;exact qzM h;cases h
theorem qxA{α:Type}{g:α→Bool}:∀{l:List α}{x:α}{m:List α},l.dropWhile g=x::m→g x=false
 |y::l,x,m,h=>by
  rw[List.dropWhile_cons]at h;split at h
  exact qxA h;rename_i hy
  cases h;simpa using hy
theorem qv3(l:List qu)(f:qu):Yl (qh6 l f) fun r=>r.2=0→zcJ r.1∧∀g∈r.1,g∈l∨g=f:=by
 unfold qh6;refine Yl.bind ((qkb l).to fun a w=>Yl.ite (fun _=>.ret fun h=>by cases h) fun x=>Yl.bind ((qxy f).to fun b hb=>Yl.ite (fun _=>.ret fun h=>by cases h) fun z=>?_));refine Yl.ite (fun _=>.ret fun h=>by cases h) fun e=>Yl.ite (fun _=>.ret fun h=>by cases h) fun t=>.ret fun _=>?_;have hl:=w.1 (by simpa using x);have A:=hb.1 (by simpa using z);have t:=of_decide_eq_false t;have B:l.take (zar l f)=l.takeWhile fun g=>decide (cpF g f<0):=by
  unfold zar
  conv=>lhs;arg 2;rw[←J0 (p:=fun g=>decide (cpF g f<0)) (l:=l)]
  exact vE rfl
 have C:l.drop (zar l f)=l.dropWhile fun g=>decide (cpF g f<0):=by
  unfold zar
  conv=>lhs;arg 2;rw[←J0 (p:=fun g=>decide (cpF g f<0)) (l:=l)]
  exact List.drop_left' rfl
 have d:=j7 (zar l f) l;have u:=hl.p;rw[←d]at u;obtain⟨E,j,F⟩:=vO.1 u;have before:∀g∈l.take (zar l f),cpF g f<0:=fun g c=>by
  rw[B]at c;have:=qzM c;simpa using this
 have after:∀g∈l.drop (zar l f),cpF f g<0:=by
  cases hd:l.drop (zar l f)with
  |nil=>exact fun g c=>by cases c
  |cons y m=>
   have n:¬cpF y f<0:=by
    rw[C]at hd;simpa using qxA hd
   have o:cpF y f≠0:=by
    have hq:l[zar l f]? =some y:=by
     have:(l.drop (zar l f))[0]? =some y:=by rw[hd];rfl
     simpa using this
    unfold zax at e;rw[hq]at e;simpa using e
   have hy:=qyc n o;intro g c;rcases jx.1 c with rfl|c
   exact hy;rw[hd]at j;exact qll hy ((List.pairwise_cons.1 j).1 g c)
 have mem:∀g∈l.take (zar l f)++f::l.drop (zar l f),g∈l∨g=f:=fun g c=>by
  rcases jl.1 c with c|c
  exact .inl (j9 c);rcases jx.1 c with rfl|c
  exact .inr rfl;exact .inl (vy c)
 refine⟨⟨?_,fun g c=>?_,?_⟩,mem⟩;have:=congrArg List.length d;rw[ja]at this;simp only[ja,jg];omega;rcases mem g c with h|rfl
 exact hl.v g h;exact A;refine vO.2 ⟨E,List.pairwise_cons.2 ⟨after,j⟩,fun g c h q=>?_⟩;rcases jx.1 q with rfl|q
 exact before g c;exact F g c h q
theorem qnU:∀{l:List Int}{x:Int},x∈zW l→x∈l
 |[],_,h=>h
 |[_],_,h=>h
 |a::b::l,x,h=>by
  unfold zW at h;split at h
  exact jp _ (qnU h);rcases jx.1 h with rfl|h
  exact je ..;exact jp _ (qnU h)
theorem qrw:∀(l:List Int),(zW l).length≤l.length
 |[]=>jf _
 |[_]=>jf _
 |a::b::l=>by
  have:=qrw (b::l);unfold zW;split
  simp only[jg]at this⊢;omega;simp only[jg]at this⊢;omega
theorem qve{l:List (Int×At)}{v:List Int}(hl:l.length≤500)(a:v.length≤2000000)(hw:∀x∈l,wtL x.2.ts≤1000000000):Yl (qhP l v) fun r=>r.length≤500∧∀i∈r,i∈l.map (·.1):=by
 refine⟨_,if_pos ⟨by omega,by omega,hw⟩,?_,fun i hi=>?_⟩;have b:=qrw (affL l v);have c:(affL l v).length≤l.length:=by
  unfold affL;rw[List.length_mergeSort,jh];exact Jp ..
 omega;have:=qnU hi;unfold affL at this;rw[List.mem_mergeSort]at this;obtain⟨q,hq,e⟩:=jt.1 this;rw[←e];exact jM (vS.1 hq).1
def wkF(i:Int):qB:=⟨⟨0,⟨#[]⟩,[]⟩,i,-1⟩
theorem qCP{s:List qB}{l:List (Int×At)}{v:List Int}(hs:s.length≤1000)(hl:l.length≤500)(b:v.length≤2000000)(hw:∀x∈l,wtL x.2.ts≤1000000000):Yl (qf9 s l v) fun r=>r.2=0→r.1.length≤1000∧∃ids:List Int,r.1=s++ids.map wkF∧∀i∈ids,i∈l.map (·.1):=by
 unfold qf9;refine Yl.bind ((qve hl b hw).to fun ids hi=>?_);refine Yl.bind (Yl.val (show qlE ids=some (ids.reverse.map wkF)from if_pos oa) ?_);have hlen:(ids.reverse.map wkF).length=ids.length:=by simp
 rw[qex oa];refine Yl.ite (fun _=>.ret fun h=>by cases h) fun h=>?_;have h:=of_decide_eq_false h;refine Yl.bind (Yl.subO ⟨by omega,by omega,by omega⟩ ?_);rw[jO,jF,Je,vJ];refine Yl.bind (Yl.appO oa (.ret fun _=>⟨by rw[ja];omega,ids.reverse,rfl,fun i a=>hi.2 i (JM.1 a)⟩))
theorem qyL{α:Type}{l:List α}{j:Nat}{q:α}(h:l[j]? =some q):l.set j q=l:=by
 refine List.ext_getElem? fun i=>?_;rw[vA];split
 rename_i e
 subst e;rw[if_pos (jd.1 h).1,h];rfl
section
variable{p:qf}{c:qe}{o:Int}
theorem qgG{a:At}(h:zn a=true):wtL a.ts≤200:=(qhY h).2.1
theorem zbX.wl{l:List (Int×At)}(h:zbX l):∀x∈l,wtL x.2.ts≤200:=fun x b=>qgG (h.a x b)
theorem StO.bF(h:StO p c o):∀q∈c.fo,q.1<c.fg∧∀w∈zX q.2,w<c.fg:=fun q hq=>⟨(h.bn q hq).n,(h.bn q hq).f⟩
def FrA(b:List (Int×T))(f g:qB):Prop:=(f.fj≠0∧g=f)∨(f.fj=0∧g.fj=f.fj∧g.fA=f.fA∧ApG b f.fi g.fi∧zu g.fi=true)
theorem ApV.free{b:List (Int×T)}{os:List Int}{w:Int}{F:Int}(h:ApV b os w)(hb:SlF F b)(a:∀v∈os,v<F):w<F∧w∉dmB b:=by
 rcases h with⟨d,e⟩|⟨q,hq,hw⟩
 exact⟨a w d,e⟩;exact hb.vr q hq w hw
theorem zbF.up{c':qe}{f:qB}(h:zbF p c o f)(hn:c.fl≤c'.fl)(a:∀w,Fre c w→Fre c' w):zbF p c' o f:=⟨fun hi=>⟨⟨(h.w hi).1.1,by have:=(h.w hi).1.2;omega⟩,(h.w hi).2⟩,fun hi=>⟨(h.z hi).1,(h.z hi).2.1,fun w hw=>a w ((h.z hi).2.2.1 w hw),(h.z hi).2.2.2⟩⟩
theorem zb9.up{c':qe}{x:Int×At}(h:zb9 p c x)(hn:c.fl≤c'.fl)(a:∀w,Fre c w→Fre c' w):zb9 p c' x:=⟨by have:=h.n;omega,fun w hw=>a w (h.f w hw),h.d⟩
theorem qAn{fuel:Nat}{g:Gl}(E:10000000000<fuel)(h:StO p c o)(ho:0≤o)(hg:zu g=true)(F:∀w∈zy g.ts,Fre c w):Yl (qeA fuel c g) fun r=>r.2=0→StO p r.1 o∧r.1.fg=c.fg:=by
 unfold qeA;refine Yl.bind ((qCt E h.b h.bF hg fun w hw=>(F w hw).1).to fun r hr=>Yl.ite (fun G=>.ret fun u=>?_) fun M=>Yl.ite (fun _=>.ret fun _=>⟨⟨h.k,h.n,h.f,h.s,h.b,h.h,fun f E=>(h.fr f E).up (vf _) fun w hw=>hw,fun x t=>(h.it x t).up (vf _) fun w hw=>hw,fun q hq=>⟨(h.bn q hq).n,(h.bn q hq).f⟩,fun f E=>h.fc f E⟩,rfl⟩) fun N=>?_);dsimp only at u;rw[u]at G;cases G;obtain⟨hb,hbl⟩:=hr (by simpa using M) (by simpa using N);have H:∀q∈r.1,wt q.2≤200:=fun q hq=>(qg2 (hb.tm q hq)).2;have hk:=h.k;refine Yl.bind (Yl.val (show clO 64 c.fk=some c.fk from by unfold clO;rw[qeL oe oe];rfl) ?_);refine Yl.fillC (FrA r.1) c.fk (fun j q a nx Y I J=>?_) fun fs K=>?_;refine Yl.getN I (Yl.ite (fun hi=>?_) fun hi=>?_);have hi:q.fj=0:=by simpa using hi
 obtain⟨z1,Z,z3,z4⟩:=(h.fr q (List.mem_of_getElem? Y)).z hi;have hw:=(qdC Z).2;refine Yl.bind ((qn1 H oa oa).to fun g' L=>?_);rw[qhk (jd.1 I).1];have:=L.2.2.2.1;refine Yl.bind (Yl.ret (Yl.bind (Yl.val (if_pos (show wtL g'.ts≤1000000000 by omega)) (Yl.ite (fun _=>.ret fun h=>by cases h) fun P=>J _ (.inr ⟨hi,rfl,rfl,L,?_⟩)))));simpa using P;have hi:q.fj≠0:=by simpa using hi
 have:=J q (.inl ⟨hi,rfl⟩)
 rwa [qyL I]at this
 refine Yl.bind ((qCP (by have:=K.1;omega) h.s.n oa fun x t=>by have:=h.s.wl x t;omega).to fun s hs=>Yl.ite (fun G=>.ret fun u=>?_) fun Q=>?_);dsimp only at u;rw[u]at G;cases G;obtain⟨S,ids,U,V⟩:=hs (by simpa using Q);have hsl:=h.s.n;refine Yl.bind ((qqX H oa (fun x t=>by have:=h.s.wl x t;omega) oa).to fun l hl=>?_);have W:∀y∈l,wtL y.2.ts≤1000000000:=fun y hy=>by
  obtain⟨x,t,M,N,Q⟩:=hl.mem hy;have:=h.s.wl x t;have:=Q.2.1;omega
 have he:qdL l=some (l.all fun x=>zn x.2):=by
  unfold qdL qcq qdl;rw[qf5 qcL (fun x=>!zn x.2) l (fun x t=>by
   unfold qcL qeP;rw[show qdY x.2=some (zn x.2)from if_pos (W x t)];rfl) fun _ _ _=>rfl]
  simp only[jb,qhW,qeE]
 refine Yl.bind (Yl.val he (Yl.ite (fun _=>.ret fun h=>by cases h) fun B=>.ret fun _=>?_));have B:∀x∈l,zn x.2=true:=by
  intro x t;have B:(l.all fun x=>zn x.2)=true:=by
   cases hh:l.all fun x=>zn x.2 with
   |true=>rfl
   |false=>rw[hh]at B;cases B
  exact jD.1 B x t
 have A:l.map (·.1)=c.fh.map (·.1):=by
  refine List.ext_getElem? fun i=>?_;rw[vq,vq];have hll:=hl.1;by_cases hi:i<l.length;rw[jj hi,jj oa];exact congrArg some (hl.2 i _ _ (jj oa) (jj hi)).1;rw[JF oa,JF oa]
 refine⟨⟨S,h.n,h.f,⟨?_,?_,?_,B⟩,⟨hb.asc,fun q hq=>⟨(hb.rg q hq).1,(hb.rg q hq).2.1⟩,hb.tm,fun q hq w hw=>(hb.vr q hq w hw).2⟩,h.h,fun f m=>?_,fun y hy=>?_,fun q hq=>⟨(hb.rg q hq).2.2,fun w hw=>(hb.vr q hq w hw).1⟩,fun f m=>?_⟩,rfl⟩;have:=hl.1;dsimp only;omega;have:=(Jh (f:=fun x:Int×At=>x.1) (R:=fun a b:Int=>a<b)).2 h.s.p;rw[←A]at this;exact Jh.1 this;intro y hy;have:y.1∈c.fh.map (·.1):=by
  rw[←A];exact jM hy
 obtain⟨x,t,e⟩:=jt.1 this;rw[←e];exact h.s.g x t;dsimp only at m;rw[U]at m;rcases jl.1 m with m|m
 obtain⟨f0,X,hA⟩:=K.mem m;have C:=h.fr f0 X;rcases hA with⟨O,rfl⟩|⟨O,a2,a3,a4,a5⟩
 exact⟨fun hi=>C.w hi,fun hi=>absurd hi O⟩;obtain⟨z1,Z,z3,z4⟩:=C.z O;refine⟨fun hi=>absurd (a2.trans O) hi,fun hi=>⟨by omega,a5,fun w hw=>?_,?_⟩⟩;exact(a4.2.2.2.2 w hw).free hb fun v F=>(z3 v F).1;rw[a4.1,a4.2.1,a4.2.2.1];exact z4;obtain⟨i,hi,rfl⟩:=jt.1 m;obtain⟨x,t,rfl⟩:=jt.1 (V i hi);have M:=h.s.g x t;have N:=(h.it x t).n;refine⟨fun _=>⟨⟨M,N⟩,⟨rfl,qe5,rfl⟩,vf _,?_⟩,fun hi=>absurd hi (by show x.1≠0;omega)⟩;show(-1:Int)≤o;omega;dsimp only at hy;obtain⟨x,t,Y,I,e3⟩:=hl.mem hy;have C:=h.it x t;refine⟨by have:=C.n;dsimp only;omega,fun w hw=>(e3.2.2 w hw).free hb fun v F=>(C.f v F).1,?_⟩;rw[I,e3.1];exact C.d;obtain⟨r,f1,f2,f3,f4⟩:=h.fc f m;refine⟨r,f1,f2,f3,fun i hi=>?_⟩;show i∈l.map (·.1);rw[A];exact f4 i hi
theorem qvk{g:Gl}{st:List qB}(h:StO p c o)(E:st.length≤1000)(t:∀f∈st,zbF p ⟨c.fk,c.fh,c.fo,c.fC,c.fl+1,c.fg,c.fE⟩ o f)(J:wtL g.ts≤1000)(F:∀w∈zy g.ts,Fre c w)(hd:Dcl p g.n g.ts.length):Yl (qdz ⟨st,c.fh,c.fo,c.fC,c.fl,c.fg,c.fE⟩ g) fun r=>r.2=0→StO p r.1 o∧r.1.fg=c.fg:=by
 unfold qdz;have hn:=h.n;refine Yl.ite (fun _=>.ret fun h=>by cases h) fun u=>Yl.ite (fun _=>.ret fun h=>by cases h) fun v=>?_;dsimp only at u v⊢;have u:c.fl≠2147483648:=by simpa using u
 have v:=of_decide_eq_false v;have G:Yl (qgh c.fh (c.fl,⟨g.n,g.ts⟩)) fun r=>r.2=0→r.1=c.fh++[(c.fl,⟨g.n,g.ts⟩)]∧zn ⟨g.n,g.ts⟩=true:=by
  unfold qgh;refine Yl.bind ((qml _ fun x d=>by have:=h.s.wl x d;omega).to fun b _=>Yl.ite (fun _=>.ret fun h=>by cases h) fun _=>?_);refine Yl.bind (Yl.val (show qdY ⟨g.n,g.ts⟩=some _ from if_pos (by dsimp only;omega)) (Yl.ite (fun _=>.ret fun h=>by cases h) fun hr=>Yl.ite (fun _=>.ret fun h=>by cases h) fun _=>?_));have hr:zn ⟨g.n,g.ts⟩=true:=by simpa using hr
  refine Yl.bind (Yl.ret ?_);unfold qcB qae;rw[qf5 (fun q=>qdE q c.fl) (fun q=>q.1==c.fl) c.fh (fun _ _=>rfl) fun _ _ _=>rfl];have fin:Yl ((subO c.fh 0 (c.fh.length:Int)).bind fun z=>(appO 48 z [(c.fl,(⟨g.n,g.ts⟩:At))]).bind fun A=>some (A,(0:Int))) fun r=>r.2=0→r.1=c.fh++[(c.fl,⟨g.n,g.ts⟩)]∧zn ⟨g.n,g.ts⟩=true:=by
   refine Yl.bind (Yl.subO ⟨by omega,by omega,by omega⟩ ?_);rw[jO,jF,Je,vJ];exact Yl.bind (Yl.appO (by simp only[jg,ji];omega) (.ret fun _=>⟨rfl,hr⟩))
  refine Yl.bind (Yl.bind (Yl.ret (.ret (Yl.ite (fun _=>.ret fun h=>by cases h) fun _=>Yl.ite (fun l=>?_) fun _=>Yl.ite (fun _=>.ret fun h=>by cases h) fun _=>fin))));have l:=of_decide_eq_true l;rw[qex oa];obtain⟨m,hm⟩:∃m,c.fh.length=m+1:=⟨c.fh.length-1,by omega⟩
  have em:(c.fh.length:Int)-1=(m:Int):=by omega
  rw[em];exact Yl.getN (jj oa) (Yl.ite (fun _=>.ret fun h=>by cases h) fun _=>Yl.ite (fun _=>.ret fun h=>by cases h) fun _=>fin)
 refine Yl.bind (G.to fun r hr=>Yl.ite (fun C=>.ret fun j=>?_) fun l=>.ret fun _=>?_);dsimp only at j;rw[j]at C;cases C;obtain⟨H,I⟩:=hr (by simpa using l);rw[qex oa,H];have e:∀x∈c.fh++[(c.fl,(⟨g.n,g.ts⟩:At))],x∈c.fh∨x=(c.fl,⟨g.n,g.ts⟩):=fun x d=>by simpa using d
 refine⟨⟨E,by dsimp only;omega,h.f,⟨by simp;omega,?_,fun x d=>?_,fun x d=>?_⟩,h.b,h.h,fun f B=>?_,fun x d=>?_,fun q hq=>⟨(h.bn q hq).n,(h.bn q hq).f⟩,fun f B=>?_⟩,rfl⟩;exact vO.2 ⟨h.s.p,JZ ..,fun x d y hy=>by rw[jr.1 hy];exact(h.it x d).n⟩;rcases e x d with d|rfl
 exact h.s.g x d;dsimp only;omega;rcases e x d with d|rfl
 exact h.s.a x d;exact I;exact(t f B).up (vf _) fun w hw=>hw;rcases e x d with d|rfl
 exact(h.it x d).up (by dsimp only;omega) fun w hw=>hw;exact⟨by dsimp only;omega,F,hd⟩;obtain⟨r,f1,f2,f3,f4⟩:=h.fc f B;refine⟨r,f1,f2,f3,fun i hi=>?_⟩;show i∈(c.fh++[(c.fl,(⟨g.n,g.ts⟩:At))]).map (·.1);rw[jJ];exact jz _ (f4 i hi)
end
end Go.Proofs.YtgcegilpajfdhaaGreat
