/-
 Texts of the seat,merged.
-/
import Derived.Test.YtgcegilpajfdhaaGreatLTG
set_option linter.unusedVariables false
set_option linter.unusedSimpArgs false
set_option linter.unnecessarySimpa false
set_option linter.all false
set_option maxHeartbeats 8000000
namespace Go.Proofs.YtgcegilpajfdhaaGreat
open Go.Proofs.Tryz
set_option maxRecDepth 100000
open Go.RowKit Go.Maps Go.Sort
def qez:Go.Shelf.Ren:=⟨fun x=>match x with|7=>368|10=>390|n=>n,fun x=>match x with|23=>404|26=>3|3=>3|28=>293|0=>0|27=>292|33=>244|4=>4|n=>n,fun x=>x⟩
def qnS:Go.Shelf.Ren:=⟨fun x=>match x with|6=>367|8=>389|9=>294|11=>395|13=>318|12=>317|23=>347|24=>348|14=>338|15=>339|16=>340|17=>341|18=>342|19=>343|20=>344|21=>345|22=>346|25=>376|26=>377|27=>378|28=>379|29=>380|30=>277|31=>392|n=>n,fun x=>match x with|26=>3|28=>293|24=>87|0=>0|3=>3|37=>271|48=>394|50=>268|4=>4|40=>388|39=>387|45=>315|5=>5|9=>9|51=>419|55=>423|57=>430|58=>431|33=>244|n=>n,fun x=>x⟩
def qwc:Go.Shelf.Ren:=⟨fun x=>match x with|5=>294|8=>318|7=>317|19=>347|20=>348|10=>338|11=>339|12=>340|13=>341|14=>342|15=>343|16=>344|17=>345|18=>346|30=>376|31=>377|32=>378|33=>379|34=>380|35=>277|40=>392|n=>n,fun x=>match x with|23=>87|25=>3|3=>3|32=>271|22=>87|0=>0|44=>394|46=>268|4=>4|36=>388|35=>387|41=>315|5=>5|9=>9|53=>419|57=>423|63=>430|64=>431|n=>n,fun x=>x⟩
def qwS:Go.Shelf.Ren:=⟨fun x=>match x with|43=>295|n=>n,fun x=>match x with|22=>87|23=>3|3=>3|4=>4|0=>0|n=>n,fun x=>x⟩
theorem keysA:Go.Proofs.SlLaysZI.n7 prog qez where
 mixed:=by kernel_rfl
 f7:=⟨Tryz.f368.name,by kernel_rfl,func368.trans ob⟩
 f10:=⟨Tryz.f390.name,by kernel_rfl,func390.trans ob⟩
 t0:=underlying0
 a0:=Tryz.isAgg0
 z0:=Tryz.sizeOf0
 v0:=Tryz.zeroValue0
 t4:=underlying4
 a4:=Tryz.isAgg4
 z4:=Tryz.sizeOf4
 v4:=Tryz.zeroValue4
 t23:=underlying404
 a23:=Tryz.isAgg404
 z23:=Tryz.sizeOf404
 v23:=Tryz.zeroValue404
 t26:=underlying3
 a26:=Tryz.isAgg3
 z26:=Tryz.sizeOf3
 v26:=Tryz.zeroValue3
 t27:=underlying292
 a27:=Tryz.isAgg292
 z27:=Tryz.sizeOf292
 v27:=Tryz.zeroValue292
 t28:=underlying293
 a28:=Tryz.isAgg293
 z28:=Tryz.sizeOf293
 v28:=Tryz.zeroValue293
 t33:=underlying244
 a33:=Tryz.isAgg244
 z33:=Tryz.sizeOf244
 v33:=Tryz.zeroValue244
theorem zcI:Go.Proofs.SlLaysZI.n6 prog qnS where
 mixed:=by kernel_rfl
 f6:=⟨Tryz.f367.name,by kernel_rfl,func367.trans ob⟩
 f8:=⟨Tryz.f389.name,by kernel_rfl,func389.trans ob⟩
 f11:=⟨Tryz.f395.name,by kernel_rfl,func395.trans ob⟩
 t0:=underlying0
 a0:=Tryz.isAgg0
 z0:=Tryz.sizeOf0
 v0:=Tryz.zeroValue0
 t24:=underlying87
 a24:=Tryz.isAgg87
 z24:=Tryz.sizeOf87
 v24:=Tryz.zeroValue87
 t26:=underlying3
 a26:=Tryz.isAgg3
 z26:=Tryz.sizeOf3
 v26:=Tryz.zeroValue3
 t28:=underlying293
 a28:=Tryz.isAgg293
 z28:=Tryz.sizeOf293
 v28:=Tryz.zeroValue293
 i26:=by kernel_rfl
theorem zb7:Go.Proofs.SlLaysM.n5 prog qwc where
 mixed:=by kernel_rfl
 f5:=⟨Tryz.f294.name,by kernel_rfl,func294.trans ob⟩
 f7:=⟨Tryz.f317.name,by kernel_rfl,func317.trans ob⟩
 f8:=func318.trans ob
 f10:=⟨Tryz.f338.name,by kernel_rfl,func338.trans ob⟩
 f11:=⟨Tryz.f339.name,by kernel_rfl,func339.trans ob⟩
 f12:=⟨Tryz.f340.name,by kernel_rfl,func340.trans ob⟩
 f13:=⟨Tryz.f341.name,by kernel_rfl,func341.trans ob⟩
 f14:=⟨Tryz.f342.name,by kernel_rfl,func342.trans ob⟩
 f15:=⟨Tryz.f343.name,by kernel_rfl,func343.trans ob⟩
 f16:=⟨Tryz.f344.name,by kernel_rfl,func344.trans ob⟩
 f17:=⟨Tryz.f345.name,by kernel_rfl,func345.trans ob⟩
 f18:=⟨Tryz.f346.name,by kernel_rfl,func346.trans ob⟩
 f19:=func347.trans ob
 f20:=func348.trans ob
 f30:=⟨Tryz.f376.name,by kernel_rfl,func376.trans ob⟩
 f31:=func377.trans ob
 f32:=func378.trans ob
 f33:=⟨Tryz.f379.name,by kernel_rfl,func379.trans ob⟩
 f34:=⟨Tryz.f380.name,by kernel_rfl,func380.trans ob⟩
 f35:=⟨Tryz.f277.name,by kernel_rfl,func277.trans ob⟩
 f40:=⟨Tryz.f392.name,by kernel_rfl,func392.trans ob⟩
 t0:=underlying0
 a0:=Tryz.isAgg0
 z0:=Tryz.sizeOf0
 v0:=Tryz.zeroValue0
 t3:=underlying3
 a3:=Tryz.isAgg3
 z3:=Tryz.sizeOf3
 v3:=Tryz.zeroValue3
 t4:=underlying4
 a4:=Tryz.isAgg4
 z4:=Tryz.sizeOf4
 v4:=Tryz.zeroValue4
 t5:=underlying5
 a5:=Tryz.isAgg5
 z5:=Tryz.sizeOf5
 v5:=Tryz.zeroValue5
 t9:=underlying9
 a9:=Tryz.isAgg9
 z9:=Tryz.sizeOf9
 v9:=Tryz.zeroValue9
 t22:=underlying87
 a22:=Tryz.isAgg87
 z22:=Tryz.sizeOf87
 v22:=Tryz.zeroValue87
 t23:=underlying87
 a23:=Tryz.isAgg87
 z23:=Tryz.sizeOf87
 v23:=Tryz.zeroValue87
 t25:=underlying3
 a25:=Tryz.isAgg3
 z25:=Tryz.sizeOf3
 v25:=Tryz.zeroValue3
 t32:=underlying271
 a32:=Tryz.isAgg271
 z32:=Tryz.sizeOf271
 v32:=Tryz.zeroValue271
 t35:=underlying387
 a35:=Tryz.isAgg387
 z35:=Tryz.sizeOf387
 v35:=Tryz.zeroValue387
 t36:=underlying388
 a36:=Tryz.isAgg388
 z36:=Tryz.sizeOf388
 v36:=Tryz.zeroValue388
 t41:=underlying315
 a41:=Tryz.isAgg315
 z41:=Tryz.sizeOf315
 v41:=Tryz.zeroValue315
 t44:=underlying394
 a44:=Tryz.isAgg394
 z44:=Tryz.sizeOf394
 v44:=Tryz.zeroValue394
 t46:=underlying268
 a46:=Tryz.isAgg268
 z46:=Tryz.sizeOf268
 v46:=Tryz.zeroValue268
 t53:=underlying419
 a53:=Tryz.isAgg419
 z53:=Tryz.sizeOf419
 v53:=Tryz.zeroValue419
 t57:=underlying423
 a57:=Tryz.isAgg423
 z57:=Tryz.sizeOf423
 v57:=Tryz.zeroValue423
 t63:=underlying430
 a63:=Tryz.isAgg430
 z63:=Tryz.sizeOf430
 v63:=Tryz.zeroValue430
 t64:=underlying431
 a64:=Tryz.isAgg431
 z64:=Tryz.sizeOf431
 v64:=Tryz.zeroValue431
theorem compA:Go.Proofs.SlLaysN.n43 prog qwS where
 mixed:=by kernel_rfl
 f43:=⟨Tryz.f295.name,by kernel_rfl,func295.trans ob⟩
 t0:=underlying0
 a0:=Tryz.isAgg0
 z0:=Tryz.sizeOf0
 v0:=Tryz.zeroValue0
 t3:=underlying3
 a3:=Tryz.isAgg3
 z3:=Tryz.sizeOf3
 v3:=Tryz.zeroValue3
 t4:=underlying4
 a4:=Tryz.isAgg4
 z4:=Tryz.sizeOf4
 v4:=Tryz.zeroValue4
 t22:=underlying87
 a22:=Tryz.isAgg87
 z22:=Tryz.sizeOf87
 v22:=Tryz.zeroValue87
 t23:=underlying3
 a23:=Tryz.isAgg3
 z23:=Tryz.sizeOf3
 v23:=Tryz.zeroValue3
 i23:=by kernel_rfl
section
variable{K:Ctx}{p:Addr→Prop}{σ τ:St}{w w':World}
theorem qno(h:Inv K p σ w)(b:Below w.heap.size w w'):Inv K p σ w'∧zE p w p w':=by
 have lt:∀a,p a→a.block<w.heap.size:=fun a c=>by
  obtain⟨v,e⟩:=h.pub a c;exact qfs e
 have gr:zE p w p w':=fun a c=>⟨c,qdy (b.block _ (lt a c))⟩
 refine⟨⟨fun o f=>(h.ok o f).keep gr (fun k d=>b.block k ((h.ok o f).lt d)) (fun _ _ c _ _=>c),h.nd,h.mine,fun a c=>?_,h.gr.tr gr,h.neu,b.os.trans h.os,b.tape.trans h.tape,b.output.trans h.output,vG h.size b.size,fun k d hF=>(b.block k (vi d h.size)).trans (h.block k d hF)⟩,gr⟩;obtain⟨v,e⟩:=h.pub a c;exact⟨v,by rw[(gr a c).2];exact e⟩
theorem qxw(h:Inv K p σ w)(n:Nat):Inv K p σ (Go.Sort.ahead w n)∧zE p w p (Go.Sort.ahead w n):=qno h ⟨rfl,rfl,rfl,jf _,fun _ _=>rfl⟩
theorem qxI(h:Inv K p σ w)(os:Array Obj):Inv K p σ (grow w os)∧zE p w p (grow w os):=qno h ⟨rfl,rfl,rfl,by simp,fun k a=>by
 show(w.heap++os)[k]? =_;rw[JB a]⟩
theorem qvf{l:List D}{e:TypeId}{s:Nat}{u:Value}(a:Inv K p (.vec u l e s::τ) w)(B:∃A c,u= .slice A l.length c∧l.length≤c∧c≤9223372036854775807):∃v,zE p w v w∧Inv K v τ w∧Rep v w (.lst l) u:=by
 have x:=a.ok _ (je ..);obtain⟨A,c,rfl,h,m⟩:=B;by_cases n:l=[]
 subst n;refine⟨p,zE.refl p w,a.tail,?_⟩;simp only[Rep];exact⟨A,c,[],rfl,h,m,.inl rfl,zj.nil _ _,by simp⟩;obtain⟨b,cap,xs,junk,g,C,E,F,M,N,G,O⟩:=qiB x n;injection g with g _ t
 subst g t;have f:(Ob.vec (.slice (some ⟨b,0,none⟩) l.length c) l e s).blk=some b:=rfl;have hm:=a.mine b (qd0.2 ⟨_,je ..,f⟩);have o:=a.nd;have z:b∉yl τ:=by
  simp only[yl,vt,f,vd]at o;exact o.1
 have d:∀j u,xs[j]? =some u→w.cell? ⟨b,0+j,none⟩=some u:=fun j u hu=>by
  rw[jc,cell_of_row _ _ _ _ _ _ F];have:=(jd.1 hu).1;simp only[vD];rw[j3 this];exact hu
 have H:=a.tail.give (fun q=>q.block=b∧q.spot=none∧q.off<xs.length) fun q⟨g,t,I⟩=>by
  obtain⟨J,of,sp⟩:=q;simp only at g t I;subst g t;refine⟨⟨xs[of],?_⟩,hm,fun o' L J hb r=>?_⟩;have:=d of xs[of] og;simpa using this;simp only at r;subst r;exact absurd (qd0.2 ⟨o',L,hb⟩) z
 refine⟨_,qfd p _ w,H,?_⟩;simp only[Rep];refine⟨_,c,xs,rfl,h,m,.inr ⟨b,0,rfl,fun j u hu=>⟨.inr ⟨rfl,rfl,?_⟩,d j u hu⟩⟩,C.grow (qfd p _ w),E⟩;have:=(jd.1 hu).1;simp only;omega
end
theorem qsk{p:Addr→Prop}{w:World}:∀{L:List Int}{xs:List Value},zj p w (L.map (D.int .i64)) xs→xs=L.map (Value.int .i64)∧∀n∈L,IntKind.i64.wrap n=n
 |[],xs,h=>by
  simp only[jU,zj]at h;exact⟨h,fun _ hn=>by cases hn⟩
 |n::L,xs,h=>by
  simp only[jm,zj,Rep]at h;obtain⟨v,rest,rfl,⟨rfl,hw⟩,a⟩:=h;obtain⟨rfl,b⟩:=qsk a;refine⟨by simp[Value.cells],fun m hm=>?_⟩;rcases jx.1 hm with rfl|hm
  exact hw;exact b m hm
theorem qnl{p:Addr→Prop}{w:World}:∀{L:List Int},(∀n∈L,IntKind.i64.wrap n=n)→zj p w (L.map (D.int .i64)) (L.map (Value.int .i64))
 |[],_=>by simp only[jU,zj]
 |n::L,h=>by
  simp only[jm,zj,Rep];exact⟨.int .i64 n,L.map (Value.int .i64),by simp[Value.cells],⟨rfl,h n (je ..)⟩,qnl fun m hm=>h m (jp _ hm)⟩
theorem qob{w:World}{g:Nat}{cur:Array Value}{e:TypeId}{fr:Nat×Nat}(h:w.heap[g]? =some (.cells cur e fr))(F:Array Value→Array Value):mapBlock w g F=w.setRow g (F cur):=by
 unfold mapBlock World.setRow;congr 1
 apply Array.ext_getElem?;intro k;simp only[JU];by_cases a:g=k;subst a;rw[if_pos rfl,if_pos rfl,h];rfl;rw[if_neg a,if_neg a]
theorem qqT(enc:Int→Value)(d:Array Int)(c:Array Value):(putCells enc 0 d c).size=c.size:=by simp[putCells]
theorem qqG(d:List Int)(c:Array Value)(m:Nat)(hm:m≤d.length)(b:d.length≤c.size):(putCells (Value.int .i64) 0 d.toArray c).toList.take m=(d.take m).map (Value.int .i64):=by
 apply List.ext_getElem?;intro k;rw[jZ,vq,jZ];by_cases a:k<m;rw[if_pos a,if_pos a,vc];unfold putCells;rw[Array.getElem?_mapIdx,vB oa];simp only[Jf,jV,ju,true_and,jc,Nat.sub_zero];rw[if_pos oa,jj oa];simp;rw[jj oa];rfl;rw[if_neg a,if_neg a];rfl
theorem qnX{p:Addr→Prop}{w:World}{g n c:Nat}{L:List Int}{e:TypeId}(h:zbb p w (.vec (hdS g n c) (L.map (D.int .i64)) e 1)):Holds (Value.int .i64) w g 0 L.toArray∧(∀n∈L,IntKind.i64.wrap n=n)∧∃cur,w.heap[g]? =some (.cells cur e (0,0))∧L.length≤c∧cur.size=c*1:=by
 obtain⟨_,_,_,xs,cur,l,_,a,_,b,_,m,d⟩:=qnR h;obtain⟨rfl,hw⟩:=qsk l;rw[jh]at b d;refine⟨fun j f=>?_,hw,cur,a,b,m⟩;simp only[jV]at f;refine⟨?_,by simp[World.frozen?,a]⟩;rw[jc,cell_of_row _ _ _ _ _ _ a];have:(cur.toList.take (L.length*1))[j]? =some (Value.int .i64 L[j]):=by rw[d];simp
 rw[jZ,if_pos oa]at this;rw[←vc,this];simp;rw[jj f];rfl
theorem qxF{K:Ctx}{p:Addr→Prop}{τ:St}{w:World}{g n c m q:Nat}{L d:List Int}{e:TypeId}(hi:Inv K p (.vec (hdS g n c) (L.map (D.int .i64)) e 1::τ) w)(hd:d.length=L.length)(hm:m≤d.length)(hw:∀n∈d.take m,IntKind.i64.wrap n=n):
 Inv K p (.vec (hdS g m c) ((d.take m).map (D.int .i64)) e 1::τ) (putRow (Value.int .i64) (Go.Sort.ahead w q) g 0 d.toArray)∧zE p w p (putRow (Value.int .i64) (Go.Sort.ahead w q) g 0 d.toArray):=by
 obtain⟨b,f⟩:=qxw hi q;obtain⟨_,_,cur,h,o,j⟩:=qnX (b.ok _ (je ..));unfold putRow;rw[qob h];have hl:((d.take m).map (D.int .i64)).length=m:=by rw[jh,jA];omega
 have a:=qnL (cur':=putCells (Value.int .i64) 0 d.toArray cur) b (l':=(d.take m).map (D.int .i64)) (xs':=(d.take m).map (Value.int .i64)) (zaQ fun _=>rfl) (qnl hw) (fun x l=>by obtain⟨n,_,rfl⟩:=jt.1 l;rfl) (by rw[qqT,j]) (by rw[hl,Nat.mul_one];exact qqG d cur m hm oa) oa;rw[hl]at a;exact⟨a.1,f.tr a.2⟩
def yN(L:List Int):List Int:=L.mergeSort fun a b=>decide (a≤b)
theorem qjr(L:List Int):(yN L).length=L.length:=List.length_mergeSort L
theorem qse{L:List Int}{n:Int}:n∈yN L↔n∈L:=List.mem_mergeSort
theorem qAf(u:Value)(L:List Int)(hl:L.length<1000000000):Spec prog 294 [.vec u L.length] [.vec u (L.map (D.int .i64)) 3 1] fun d σ=>d= .tup []∧σ=[.vec u ((yN L).map (D.int .i64)) 3 1]:=fun w p F hi t=>by
 obtain⟨v,rfl,hr⟩:=zaL t;obtain⟨rfl,A,c,rfl,G,H⟩:v=u∧∃A c,u= .slice A L.length c∧L.length≤c∧c≤9223372036854775807:=by simpa only[Rep]using hr
 have a:=hi.ok _ (je ..);have o:∀(p:Addr→Prop)(w:World),Rep p w (.tup []) (.tuple #[]):=fun p w=>by
  simp only[Rep];exact⟨[],rfl,zB.nil _ _⟩
 by_cases b:L=[]
 subst b;have h:=AnyM.slices_Sort_int_none zb7 A c w;refine Calls.mono (P:=prog) (f:=294) h fun e w' l=>?_;obtain⟨rfl,rfl⟩:=l;have x:yN []=[]:=by unfold yN;simp
 refine .inl ⟨_,.tup [],_,p,rfl,⟨rfl,rfl⟩,o _ _,?_⟩;rw[x];exact hi;obtain⟨g,cap,xs,junk,j,_⟩:=qiB a (fun h=>b (List.map_eq_nil_iff.1 h));rw[jh]at j;injection j with j _ z
 subst j z;obtain⟨B,hw,cur,C,I,J⟩:=qnX a;have h:=AnyM.slices_Sort_int zb7 g 0 c L w B (jL.1 C).1 oa;refine Calls.mono (P:=prog) (f:=294) h fun e w' l=>?_;obtain⟨rfl,q,os,rfl⟩:=l;have r:=qxF (m:=(yN L).length) (q:=q) (d:=yN L) hi (qjr L) (jf _) (fun n hn=>hw n (qse.1 (j9 hn)));rw[jF,qjr]at r;have E:=qxI r.1 os;exact .inl ⟨_,.tup [],_,p,rfl,⟨rfl,rfl⟩,o _ _,E.1⟩
theorem qrG(d:List Int)(x:Int):zW (d++[x])=if d.getLast? =some x then zW d else zW d++[x]:=by
 induction d with
 |nil=>rfl
 |cons y d a=>
  cases d with
  |nil=>
   show(if y=x then zW [x]else y::zW [x])=if some y=some x then[y]else[y]++[x]
   by_cases h:y=x;subst h;rw[if_pos rfl,if_pos rfl];rfl;rw[if_neg h,if_neg (fun b=>h (Option.some.inj b))];rfl
  |cons z d=>
   have e:(y::z::d).getLast? =(z::d).getLast? :=by simp[List.getLast?_cons]
   rw[e];show(if y=z then zW ((z::d)++[x])else y::zW ((z::d)++[x]))=if(z::d).getLast? =some x then(if y=z then zW (z::d)else y::zW (z::d))else(if y=z then zW (z::d)else y::zW (z::d))++[x]
   rw[a];by_cases c:y=z<;>by_cases f:(z::d).getLast? =some x<;>simp[c,f]
theorem qu0(zs:List Int):Lib.compact zs=zW zs:=by
 have key:∀m,m≤zs.length→Lib.compactUpTo zs.toArray m=zW (zs.take m):=by
  intro m;induction m with
  |zero=>intro _;rfl
  |succ m e=>
   intro hm;have d:zs[m]? =some zs[m]:=jj oa;rw[Lib.compactUpTo_succ,e oa,jI,d];show _=zW (zs.take m++[zs[m]]);rw[qrG];have hd:zs.toArray[m]! =zs[m]:=by simp;rw[d];rfl
   have f:Lib.keeps zs.toArray m= !decide ((zs.take m).getLast? =some zs[m]):=by
    unfold Lib.keeps;rw[hd];cases m with
    |zero=>simp
    |succ k=>
     have b:zs[k]? =some zs[k]:=jj oa;have c:zs.toArray[k+1-1]! =zs[k]:=by simp;rw[b];rfl
     have a:(zs.take (k+1)).getLast? =some zs[k]:=by rw[jI,b,Option.toList_some,List.getLast?_append];rfl
     rw[c,a];simp;exact⟨fun h=>h.symm,fun h=>h.symm⟩
   rw[f,hd];by_cases h:(zs.take m).getLast? =some zs[m]<;>simp[h]
 unfold Lib.compact;rw[key _ (jf _),jF]
theorem qu3(u:Value)(L:List Int)(hl:L.length<1000000000):Spec prog 295 [.vec u L.length] [.vec u (L.map (D.int .i64)) 3 1] fun d σ=>∃x,d= .vec x (zW L).length∧σ=[.vec x ((zW L).map (D.int .i64)) 3 1]:=fun w p I hi C=>by
 obtain⟨v,rfl,hr⟩:=zaL C;obtain⟨rfl,A,c,rfl,E,z⟩:v=u∧∃A c,u= .slice A L.length c∧L.length≤c∧c≤9223372036854775807:=by simpa only[Rep]using hr
 have a:=hi.ok _ (je ..);by_cases b:L=[]
 subst b;have h:=AnyG.slices_Compact_int_empty compA A c w;refine Calls.mono (P:=prog) (f:=295) h fun e w' t=>?_;obtain⟨rfl,rfl⟩:=t;exact .inl ⟨_,.vec _ 0,_,p,rfl,⟨_,rfl,rfl⟩,by simp only[Rep];exact⟨rfl,A,c,rfl,E,z⟩,hi⟩;obtain⟨g,cap,xs,junk,o,_⟩:=qiB a (fun h=>b (List.map_eq_nil_iff.1 h));rw[jh]at o;injection o with o _ F
 subst o F;obtain⟨G,hw,cur,J,M,N⟩:=qnX a;have H:(Lib.compact L).length≤L.length:=by
  unfold Lib.compact Lib.compactUpTo;rw[jh];exact vG (Jp _ _) og
 have h:=AnyG.slices_Compact_int compA g 0 c L w G oa oa;refine Calls.mono (P:=prog) (f:=295) h fun e w' t=>?_;obtain⟨rfl,q,rfl⟩:=t;have l:∀n∈Lib.compact L,n∈L:=fun n hn=>by
  unfold Lib.compact Lib.compactUpTo at hn;obtain⟨j,r,rfl⟩:=jt.1 hn;have r:=List.mem_range.1 (vS.1 r).1;simp;rw[jj r];exact JJ r
 have B:=qxF (m:=(Lib.compact L).length) (q:=q) (d:=Lib.compact L++List.replicate (L.length-(Lib.compact L).length) 0) hi oe og (fun n hn=>hw n (l n (by rwa [vE rfl]at hn)));rw[vE rfl]at B;rw[←qu0];exact .inl ⟨_,.vec (hdS g (Lib.compact L).length c) (Lib.compact L).length,_,p,rfl,⟨_,rfl,rfl⟩,by simp only[Rep];exact⟨trivial,_,c,rfl,by omega,z⟩,B.1⟩
theorem qsF(b:Nat):Spec prog 368 [.map b] [] fun d σ=>∃c,d= .clo (.func 390) [] [.ref c 0 []]∧σ=[.cell c (.map b)]:=by
 refine qam [(0,.map b)] func368 rfl rfl fun K hK=>(qx (gr [.w,.d] (ew rfl (qk2 rfl rfl rfl) ?_)))
 rintro _ _ ⟨c,rfl,rfl⟩;refine rc rfl (qz (qx (gr [.d,.d] (rd rfl (qfW rfl rfl rfl) (rc rfl (qz (qbN func368 _ (.cons (zd rfl (Wk.refl _)) .nil) ?_)))))));exact⟨c,rfl,rfl⟩
theorem qpm{p:Addr→Prop}{w:World}{P:Program}{kt:TypeId}(c:P.underlying kt=some (.int .i64)):∀{l:List (Int×Int)}{es:List MapEntry},zU p w (zb (D.int .i64) (D.int .i64) l) es→es.map (·.key)=l.map (fun q=>Value.int .i64 q.1)∧(∀q∈l,IntKind.i64.wrap q.1=q.1)∧∀x∈es,∃n,x.key= .int .i64 n∧keyOf P kt x.key=some (.int .i64 n)
 |[],es,h=>by
  simp only[jU,zU]at h;subst h;exact⟨rfl,fun _ hq=>(by cases hq),fun _ a=>(by cases a)⟩
 |q::l,es,h=>by
  simp only[jm,zU,Rep]at h;obtain⟨e,rest,rfl,⟨b,d⟩,_,f⟩:=h;obtain⟨i1,i2,i3⟩:=qpm c f;refine⟨by rw[jm,jm,i1,b],fun g hq=>?_,fun x a=>?_⟩;rcases jx.1 hq with rfl|hq
  exact d;exact i2 g hq;rcases jx.1 a with rfl|a
  refine⟨q.1,b,?_⟩;rw[b];simp[keyOf,c,mapKey,qoT d];exact i3 x a
theorem qp3{w:World}{B:Nat}{e:TypeId}{s n:Nat}{v:Value}{xs:List Value}(h:w.ownsRow B e s v n xs):w.ownsRow 0 e s v n xs:=by
 obtain⟨b,a⟩:=h;refine⟨b,?_⟩;rcases a with a|⟨g,cap,cur,c,_,d⟩
 exact .inl a;exact .inr ⟨g,cap,cur,c,ju _,d⟩
theorem qlL{w:World}{B:Nat}{e:TypeId}{s n:Nat}{v:Value}{xs:List Value}(h:w.ownsRow B e s v n xs){g:Nat}(a:v.ownBlock=some g):B≤g:=by
 obtain⟨c,b⟩:=h;rcases b with⟨rfl,_⟩|⟨d,cap,cur,rfl,f,_⟩
 simp[Value.ownBlock]at a;simp only[Value.ownBlock,Option.some.injEq]at a;omega
theorem qp6{w:World}{B:Nat}{e:TypeId}{s:Nat}{v:Value}{xs:List Value}{l:List D}(h:w.ownsRow B e s v l.length xs):∃A c,v= .slice A l.length c∧l.length≤c∧c≤9223372036854775807:=by
 obtain⟨g,b⟩:=h;rcases b with⟨rfl,a⟩|⟨j,cap,cur,rfl,a,_,d,f,_⟩
 exact⟨none,0,by rw[a],by omega,by omega⟩;exact⟨_,cap,rfl,d,f⟩
theorem qqg(b c:Nat)(l:List (Int×Int))(hl:l.length<1000000000)(V:(l.map (·.1)).Nodup):Spec prog 367 [.clo (.func 390) [] [.ref c 0 []]] [.cell c (.map b),.map b (zb (D.int .i64) (D.int .i64) l)] fun d σ=>d= .lst ((yN (l.map (·.1))).map (D.int .i64))∧σ=[.map b (zb (D.int .i64) (D.int .i64) l)]:=fun w p vs hi hv=>by
 obtain⟨v,rfl,hr⟩:=zaL hv;simp only[Rep]at hr;obtain⟨fs,cs,rfl,hf,hc⟩:=hr;simp only[zB]at hf;subst hf;obtain⟨v',rfl,G⟩:=zaL hc;simp only[Rep]at G;subst G;obtain⟨vm,ty,H,_,m,_⟩:=hi.ok _ (je ..);simp only[Rep]at H;subst H;obtain⟨es,clock,X,Y,hlen,B,I⟩:=hi.ok _ (jp _ (je ..));have hu:(prog).underlying (qez.t 26)=some (.int .i64):=keysA.t26;obtain⟨C,Z,hk3⟩:=qpm hu Y;have hln:es.toList.length=l.length:=by
  have:=congrArg List.length C;simpa using this
 let R:Value→Option (DataW Unit×List MemPlace):=fun _=>some (.nil,[])
 have J:∀x∈es.toList,∃n,x.key= .int .i64 n∧WideElems.rd prog (qez.t 26) R x=some (.int .i64 n,.nil):=fun x o=>by
  obtain⟨n,U,z⟩:=hk3 x o;exact⟨n,U,by unfold WideElems.rd;rw[z];rfl⟩
 have L:w.ownsMap prog (qez.t 26) R b es.size (.map ((es.toList.map (WideElems.rg prog (qez.t 26) R)).foldr DataW.insert [])):=by
  refine⟨es,clock,X,⟨?_,⟨I,B,?_⟩,fun x o=>?_⟩,jf _,rfl⟩;have:es.size=es.toList.length:=by simp
  unfold maxLen;omega;rw[C];rw[show l.map (fun q=>Value.int .i64 q.1)=(l.map (·.1)).map (Value.int .i64)from by rw[jR];rfl];exact Jh.2 (V.imp fun h e=>h (by injection e));obtain⟨n,_,z⟩:=J x o;exact⟨_,z⟩
 have hcw:w.cell? ⟨c,0,none⟩=some (.map (some b)):=by
  rw[cell_of_row _ _ _ _ _ _ m];rfl
 have E:size (DataW.map ((es.toList.map (WideElems.rg prog (qez.t 26) R)).foldr DataW.insert []):DataW Unit)=l.length:=by
  show((es.toList.map (WideElems.rg prog (qez.t 26) R)).foldr DataW.insert []).length=_;rw[(WideShapes.sorted_perm _).length_eq,jh,hln]
 have A:=AnyZI.keys_gives (ρ:=qez) {keysA with} Fence.wide 2 trivial rfl oa c b es.size _ (R:=R) w (jL.1 m).1 hcw L;rw[E]at A;have r:AnyZI.SortsIn prog qnS Fence.wide 4:=⟨fun blk off cap M W hH N hsz=>callsIn_wide.2 (AnyM.slices_Sort_int zb7 blk off cap M W hH N hsz),fun p cap W=>callsIn_wide.2 (AnyM.slices_Sort_int_none zb7 p cap W)⟩
 have cS:=AnyZI.sorted_in zcI Fence.wide 5 trivial trivial trivial trivial rfl oa r (enters_of func294 ob rfl) 390 #[.pointer (some ⟨c,0,none⟩)] trivial (enters_of func390 ob rfl) _ l.length (by unfold maxLen;omega) oa w A;have h:=callsIn_wide.1 cS;refine Calls.mono (P:=prog) (f:=367) h fun e w' hh=>?_;obtain⟨v,M,rfl,F,j,hnil,O⟩:=hh;have hint:intKeys (DataW.map ((es.toList.map (WideElems.rg prog (qez.t 26) R)).foldr DataW.insert []):DataW Unit)=((es.toList.map (WideElems.rg prog (qez.t 26) R)).foldr DataW.insert []).map fun p=>Go.intOf p.1:=rfl;have Q:M.Perm (l.map (·.1)):=by
  refine F.trans ?_;rw[hint];refine((WideShapes.sorted_perm _).map _).trans ?_;rw[jR];have e1:es.toList.map ((fun p:Lit×DataW Unit=>Go.intOf p.1)∘WideElems.rg prog (qez.t 26) R)=(es.toList.map (·.key)).map fun v=>match v with|.int _ n=>n|_=>0:=by
   rw[jR];refine List.map_congr_left fun x o=>?_;obtain⟨n,U,z⟩:=J x o;show Go.intOf (WideElems.rg prog (qez.t 26) R x).1=_;rw[WideElems.rg_of z];show n=_;simp[U]
  rw[e1,C,jR];exact List.Perm.refl _
 have hs2:M.mergeSort (fun x y=>decide (x≤y))=yN (l.map (·.1)):=mergeSort_of_perm_i Q;have hsl:M.length=(yN (l.map (·.1))).length:=by rw[qjr];exact Q.length_eq
 rw[hs2,hsl]at j;obtain⟨hi2,hg2⟩:=qno hi O;have hwr:∀n∈yN (l.map (·.1)),IntKind.i64.wrap n=n:=fun n hn=>by
  obtain⟨q,hq,rfl⟩:=jt.1 (qse.1 hn);exact Z q hq
 have S:zbb p w' (.vec v ((yN (l.map (·.1))).map (D.int .i64)) 3 1):=by
  refine⟨zaQ fun _=>rfl,by omega,⟨_,?_,qnl hwr,fun x o=>by obtain⟨n,_,rfl⟩:=jt.1 o;rfl⟩,fun g hg a ha hab=>?_⟩;rw[jh];exact qp3 j;obtain⟨u,hu⟩:=hi.pub a ha;have U:=qfs hu;have z:=qlL j hg;omega
 have hi3:Inv (ctx w p _) p (.vec v ((yN (l.map (·.1))).map (D.int .i64)) 3 1::[.cell c (.map b),.map b (zb (D.int .i64) (D.int .i64) l)]) w':=hi2.more S fun x o=>by
  have z:=qlL j o;exact⟨.inl z,fun hh=>by have:=hi.lt hh;omega⟩
 obtain⟨p',g1,g2,g3⟩:=qvf hi3 (qp6 (by rw[jh];exact j));exact .inl ⟨v,_,_,p',rfl,⟨rfl,rfl⟩,g3,g2.tail⟩
end Go.Proofs.YtgcegilpajfdhaaGreat
namespace Go.Proofs.YtgcegilpajfdhaaGreat
open Go.Proofs.Tryz
set_option maxRecDepth 100000
open Go.RowKit
instance:MpI prog 348 Int Unit (D.int .i64) zM ():=⟨_,_,_,_,underlying348,(zaA underlying3),qvW⟩
def qlt(a:Int)(b:List (Int×Unit)):Option Bool:=some (((zk b a).isSome))
def qy9(a:Nat):Tb:={fz:=[(1,[5])]}
theorem qyW(c:Int)(b:List (Int×Unit))(a:Nat)(res:Bool)(hr:qlt c b=some res):Spec prog 293 [.map a,.int .i64 c] [.map a (zb (D.int .i64) zM b)] (fun d σ=>d= .bool res∧σ=[.map a (zb (D.int .i64) zM b)]):=by
 unfold qlt at hr;refine qdR (qy9 a) func293 rfl fun K hK hF=>?_;exact wk
instance(b:Int)(a:List (Int×Unit)):Co prog 293 (qlt b a) (fun(nm:Nat)=>⟨[.map nm,.int .i64 b],[.map nm (zb (D.int .i64) zM a)],fun(res:Bool)=>(fun d σ=>d= .bool res∧σ=[.map nm (zb (D.int .i64) zM a)])⟩):=⟨fun nm=>qyW b a nm⟩
def qlW(a0:List Int)(a:List (Int×Unit)):Option (Int×(List (Int×Unit))):=forL (β:=Unit) (fun i1 c _ b=>(qlt c a).bind fun d=>bif d then some ((i1:Int),a)else b ()) (fun _=>some ((-1),a)) 0 a0 ()
def qzZ(a:Nat):Tb:={ls:=[(0,⟨Nat×Unit,[0,1,7],[],fun s e w=>([(8,.int .i64 (s.1:Int))],[]),[7]⟩)]}
theorem qAC(a0:List Int)(b:List (Int×Unit))(a:Nat)(res:Int×(List (Int×Unit)))(hr:qlW a0 b=some res):Spec prog 279 [.lst (a0.map (D.int .i64)),.clo (.func 293) [.map a] []] [.map a (zb (D.int .i64) zM b)] (fun d σ=>d= .int .i64 res.1∧σ=[.map a (zb (D.int .i64) zM res.2)]):=by
 unfold qlW at hr;refine qdR (qzZ a) func279 rfl fun K hK hF=>?_;exact wk
instance(a0:List Int)(a:List (Int×Unit)):Co prog 279 (qlW a0 a) (fun(nm:Nat)=>⟨[.lst (a0.map (D.int .i64)),.clo (.func 293) [.map nm] []],[.map nm (zb (D.int .i64) zM a)],fun(res:Int×(List (Int×Unit)))=>(fun d σ=>d= .int .i64 res.1∧σ=[.map nm (zb (D.int .i64) zM res.2)])⟩):=⟨fun nm=>qAC a0 a nm⟩
def qp5(a0:List Int)(b:List (Int×Unit)):Option (Bool×(List (Int×Unit))):=(qlW a0 b).bind fun a=>some ((decide (a.1≥(0:Int))),a.2)
theorem qzQ(a0:List Int)(b:List (Int×Unit))(a:Nat)(res:Bool×(List (Int×Unit)))(hr:qp5 a0 b=some res):Spec prog 242 [.lst (a0.map (D.int .i64)),.clo (.func 293) [.map a] []] [.map a (zb (D.int .i64) zM b)] (fun d σ=>d= .bool res.1∧σ=[.map a (zb (D.int .i64) zM res.2)]):=by
 unfold qp5 at hr;refine qdR {} func242 rfl fun K hK hF=>?_;exact wk
theorem qzX(m:List (Int×Unit))(s:List Int):qlW s m=some (ixF (fun i=>(zk m i).isSome) s,m):=by
 unfold qlW;exact qm4 (fun q=>qlt q m) (fun i=>(zk m i).isSome) s (fun _ _=>rfl) fun _ _ _=>rfl
theorem qAg(m:List (Int×Unit))(s:List Int):qp5 s m=some (s.any fun i=>(zk m i).isSome,m):=by
 unfold qp5;rw[qzX,jb,qhW]
def setW(v:List Int):List (Int×Unit):=v.foldl (fun m x=>yo m x ()) []
theorem qxc(v:List Int)(x:Int):setW (v++[x])=yo (setW v) x ():=by unfold setW;rw[List.foldl_append];rfl
theorem qwE(v:List Int):∀x,x∈zF (setW v)↔x∈v:=by
 have key:∀(v:List Int)(m:List (Int×Unit))(x:Int),x∈zF (v.foldl (fun m x=>yo m x ()) m)↔x∈zF m∨x∈v:=by
  intro v;induction v with
  |nil=>intro m x;simp
  |cons y v a=>
   intro m x;rw[vj,a,qgK];by_cases hy:y∈zF m;rw[if_pos hy,jx];exact⟨fun h=>h.elim .inl fun h=>.inr (.inr h),fun h=>h.elim .inl fun h=>h.elim (fun e=>.inl (e▸hy)) .inr⟩;rw[if_neg hy,jl,jr,jx,or_assoc]
 intro x;unfold setW;rw[key];simp[zF]
theorem qyg(v:List Int):(setW v).length≤v.length:=by
 have key:∀(v:List Int)(m:List (Int×Unit)),(v.foldl (fun m x=>yo m x ()) m).length≤m.length+v.length:=by
  intro v;induction v with
  |nil=>intro m;simp
  |cons y v a=>
   intro m;rw[vj,jg];have b:=a (yo m y ());have c:(yo m y ()).length≤m.length+1:=by
    have:=congrArg List.length (qgK m y ());unfold zF at this;rw[jh]at this;rw[this];split<;>simp
   omega
 have h:=key v [];rw[ji,jc]at h;exact h
theorem qzf(v:List Int)(x:Int):(zk (setW v) x).isSome=v.contains x:=by
 have h:=qwE v x;by_cases a:x∈v;rw[List.contains_iff_mem.2 a];obtain⟨d,hd⟩:=qm1 (h.2 a);rw[hd];rfl;have c:zk (setW v) x=none:=qjH.2 fun b=>a (h.1 b);rw[c,vN.2 fun b=>a (List.contains_iff_mem.1 b)];rfl
theorem qyF{p:Int→Bool}(l:List Int):(yt [] l).any p=l.any p:=by
 rw[jP,vC,vC];constructor;rintro⟨x,a,b⟩;exact⟨x,(qfY.1 a).resolve_left og,b⟩;rintro⟨x,a,b⟩;exact⟨x,qfY.2 (.inr a),b⟩
def hasV(v:List Int)(x:Int×At):Bool:=(zy x.2.ts).any fun i=>v.contains i
theorem qxj{x:Int×At}{v r:List Int}(h:qjG x.2=some r):r.any (fun i=>(zk (setW v) i).isSome)=hasV v x:=by
 unfold qjG at h;split at h
 obtain rfl:=Option.some.inj h;rw[qyF];unfold hasV;simp only[qzf];cases h
theorem tyIt9:Ty prog 83 true 3:=⟨⟨_,underlying83,rfl⟩,by kernel_rfl⟩
theorem tyAt9:Ty prog 81 true 2:=⟨⟨_,underlying81,rfl⟩,by kernel_rfl⟩
theorem elIt9:ElT prog 33 83 3 48:=.of underlying33 ob od
theorem qs3(l:List (Int×At))(v:List Int)(res:List Int)(h:qhP l v=some res):zf prog 255 [.lst (l.map zt),.lst (v.map (D.int .i64))] (.lst (res.map (D.int .i64))):=by
 unfold qhP at h;obtain⟨hl,P,hw,rfl⟩:l.length<1000000000∧v.length<1000000000∧(∀x∈l,wtL x.2.ts≤1000000000)∧zW (yN ((l.filter (hasV v)).map (·.1)))=res:=by
  split at h
  rename_i C;exact⟨C.1,C.2.1,C.2.2,Option.some.inj h⟩
  cases h
 refine qam [(0,.lst (l.map zt)),(1,.lst (v.map (D.int .i64)))] func255 rfl rfl fun K hK=>(qx (gr [.d] (rc rfl (qz (qx (gr [.d,.d,.w,.d] (rf rfl (rd rfl (qfU (f:=D.int .i64) v rfl qfK rfl (asl rfl)) (ew rfl (qpk (α:=Int) (β:=Unit) (key:=D.int .i64) (g:=zM) rfl underlying348 rfl) ?_)))))))))
 rintro _ _ ⟨r,rfl,rfl⟩;refine rc rfl (qz (qx (qx (gr [.d,.d,.d] (rf rfl (rd rfl (qfU (f:=D.int .i64) v rfl qfK rfl (asl rfl)) (rf rfl (qz ?_))))))));refine qf1 (fun env σ=>env=[(0,.lst (l.map zt)),(5,.map r)]∧σ=[.map r (zb (D.int .i64) zM (setW v))]) ?_ (fun E=>?_)
 · rintro _ _ ⟨rfl,rfl⟩
   refine qx (gr [.w] (ew rfl (qyS (e:=3) (s:=1) od (.inl rfl)) ?_));rintro _ _ ⟨M,rfl,rfl⟩;refine qz (qx (qx (gr [.d,.d,.d] (rf rfl (rd rfl (qfU (f:=zt) l rfl elIt9 rfl (asl rfl)) (rf rfl (qz ?_)))))));refine qf1 (fun env σ=>∃(u:Value)(a:List Int),a=(l.filter (hasV v)).map (·.1)∧env=[(8,.vec u a.length)]∧σ=[.vec u (a.map (D.int .i64)) 3 1,.map r (zb (D.int .i64) zM (setW v))]) ?_ (fun F=>?_)
   · rintro _ _ ⟨u,a,b,rfl,rfl⟩
     have t:a.length<1000000000:=by rw[b,jh];exact JV (Jp _ _) hl
     refine qx (gr [.d,.w] (rf rfl (ew rfl (qee [.map r (zb (D.int .i64) zM (setW v))] rfl CaI.h (.oc rfl .nil) (List.Perm.refl _) (qAf u a t)) ?_)));rintro _ _ ⟨_,⟨rfl,rfl⟩,rfl⟩;refine qz ?_;have hs:a.length=(yN a).length:=(qjr a).symm;refine qvb 8 (d':=.vec u (yN a).length) rfl (by rw[hs]) (qx (gr [.d,.w,.d] (rf rfl (ew rfl (qee [.map r (zb (D.int .i64) zM (setW v))] rfl CaI.h (.oc rfl .nil) (List.Perm.refl _) (qu3 u (yN a) (by rw[qjr];exact t))) ?_))));rintro _ _ ⟨_,⟨u2,rfl,rfl⟩,rfl⟩;refine rc rfl (qz ?_);have Q:(zW (yN a)).length=((zW (yN a)).map (D.int .i64)).length:=by rw[jh]
     refine qaX 4 rfl (List.Perm.refl _) (qjd [] _ (List.Perm.refl _) (qbN func255 _ (.cons (zd rfl (Wk.refl _)) .nil) ?_));rw[b];rfl
   · refine qcS [(5,.map r),(8,.vec M 0),(24,.lst (l.map zt)),(25,.int .i64 ((l.length:Nat):Int)),(26,.int .i64 ((0:Nat):Int))] (sc rfl (sc rfl (sc rfl (sc rfl (sc rfl (Sub.nil _)))))) ?_
     refine qhh (fun n env σ=>∃(j:Nat)(u:Value)(a:List Int),n=l.length-j∧j≤l.length∧a=((l.take j).filter (hasV v)).map (·.1)∧env=[(5,.map r),(8,.vec u a.length),(24,.lst (l.map zt)),(25,.int .i64 ((l.length:Nat):Int)),(26,.int .i64 ((j:Nat):Int))]∧σ=[.vec u (a.map (D.int .i64)) 3 1,.map r (zb (D.int .i64) zM (setW v))]) l.length ⟨0,M,[],rfl,ju _,rfl,rfl,rfl⟩ ?_;rintro n _ _ ⟨j,u,a,rfl,N,b,rfl,rfl⟩ IH;refine qx (gr [.d] (rd rfl (qcs rfl rfl rfl rfl) (qz (qx ?_))));by_cases hlt:j<l.length
     · have m:decide (((j:Nat):Int)<((l.length:Nat):Int))=true:=decide_eq_true oa
       obtain⟨q,hq⟩:∃q,l[j]? =some q:=⟨_,jj hlt⟩
       have G:=List.mem_of_getElem? hq;have c:l.take (j+1)=l.take j++[q]:=by rw[jI,hq];rfl
       obtain⟨A,B⟩:∃A,qjG q.2=some A:=⟨_,if_pos (hw q G)⟩
       refine qa7 27 true rfl m (qS rfl (qaC (qx (qcj (qx (gr [.d,.d,.w,.w] (rd rfl (qgj (f:=zt) l rfl elIt9 rfl (asl rfl) rfl (by rw[qfo];exact hq) (fun _=>rfl) rfl) (rd rfl (qak rfl rfl (by exact tyIt9) rfl) (ew rfl (qd2 rfl (z:=.agg [.int .i64 0,.agg [.str ⟨#[]⟩,.lst []]]) ZvI.h) ?_)))))))));rintro _ _ ⟨H,rfl,rfl⟩;refine qgd rfl rfl rfl (qb0 _ rfl rfl rfl (Wk.refl _) (pf0 _) (by exact tyIt9) rfl rfl rfl) (qz (qfL 10 H rfl (pf0 _) (qx (gr [.d,.d,.d,.d,.d,.w] (rd rfl (qan rfl qpz rfl rfl rfl rfl) (rd rfl (qak rfl rfl (by exact tyAt9) rfl) (rd rfl (qcw rfl CaI.h (.oc rfl .nil) (qje q.2 A B)) (rf rfl (rd rfl (qfW rfl rfl rfl) (ew rfl (qee [.vec u (a.map (D.int .i64)) 3 1] rfl CaI.h (.oc rfl (.oc rfl .nil)) (List.Perm.swap _ _ _) (qzQ A (setW v) r _ (qAg (setW v) A))) ?_))))))))));rintro _ _ ⟨_,⟨rfl,rfl⟩,rfl⟩;refine qz ?_;rw[qxj B];refine qbB 35 rfl (fun o=>?_) (fun o=>?_)
       · refine qS rfl ?_
         have O:a.length≤l.length:=by rw[b,jh];exact vG (Jp _ _) (by rw[jA];omega)
         obtain⟨l2,I,J⟩:∃l2,appO 8 a [q.1]=some l2∧l2=a++[q.1]:=⟨_,by unfold appO;exact if_pos ⟨by simp;omega,by simp;omega⟩,rfl⟩
         refine gr [.d,.d,.d,.d,.w,.d] (rf rfl (rd rfl (qan rfl qqF rfl rfl rfl rfl) (rd rfl (qak rfl rfl (by exact qgp) rfl) (rd rfl (qsx (f:=D.int .i64) [.tmp 38] [q.1] rfl qfK rfl rfl od od (.oc rfl .nil) (fun _=>rfl) (fun _=>rfl)) (ew rfl (qqj (f:=D.int .i64) (by_:=8) (r:=l2) a [q.1] rfl qfK rfl rfl (asl rfl) (List.Perm.swap _ _ _) (fun _=>rfl) I) ?_)))));rintro _ _ ⟨u2,rfl,rfl⟩;refine rc rfl (qz (qau (gr [.d,.d] (rd rfl (y4 (r:=((j+1:Nat):Int)) rfl rfl rfl (by simp[iar]) oa) (rf rfl (qz (qcS [(5,.map r),(8,.vec u2 l2.length),(24,.lst (l.map zt)),(25,.int .i64 ((l.length:Nat):Int)),(26,.int .i64 ((j+1:Nat):Int))] (sc rfl (sc rfl (sc rfl (sc rfl (sc rfl (Sub.nil _)))))) ?_)))))));refine IH _ _ _ oa ⟨j+1,u2,l2,rfl,by omega,?_,rfl,rfl⟩;rw[J,b,c,JK,jJ,Jm,if_pos o];rfl
       · refine qL rfl ?_
         refine qaC (qau (gr [.d,.d] (rd rfl (y4 (r:=((j+1:Nat):Int)) rfl rfl rfl (by simp[iar]) oa) (rf rfl (qz (qcS [(5,.map r),(8,.vec u a.length),(24,.lst (l.map zt)),(25,.int .i64 ((l.length:Nat):Int)),(26,.int .i64 ((j+1:Nat):Int))] (sc rfl (sc rfl (sc rfl (sc rfl (sc rfl (Sub.nil _)))))) (qjd [.vec u (a.map (D.int .i64)) 3 1,.map r (zb (D.int .i64) zM (setW v))] [] (List.Perm.swap _ _ _) ?_)))))));refine IH _ _ _ oa ⟨j+1,u,a,rfl,by omega,?_,rfl,rfl⟩;rw[b,c,JK,Jm,if_neg (vN.1 o),List.filter_nil,jv]
     · have m:decide (((j:Nat):Int)<((l.length:Nat):Int))=false:=decide_eq_false oa
       refine qa7 27 false rfl m (qL rfl (qi9 rfl ?_));have p:j=l.length:=by omega
       refine qcS [(8,.vec u a.length)] (sc rfl (Sub.nil _)) ?_;exact F _ _ ⟨u,a,by rw[b,p,jF],rfl,rfl⟩
 refine qcS [(0,.lst (l.map zt)),(5,.map r),(14,.lst (v.map (D.int .i64))),(15,.int .i64 ((v.length:Nat):Int)),(16,.int .i64 ((0:Nat):Int))] (sc rfl (sc rfl (sc rfl (sc rfl (sc rfl (Sub.nil _)))))) ?_;refine qhh (fun n env σ=>∃j:Nat,n=v.length-j∧j≤v.length∧env=[(0,.lst (l.map zt)),(5,.map r),(14,.lst (v.map (D.int .i64))),(15,.int .i64 ((v.length:Nat):Int)),(16,.int .i64 ((j:Nat):Int))]∧σ=[.map r (zb (D.int .i64) zM (setW (v.take j)))]) v.length ⟨0,rfl,ju _,rfl,rfl⟩ ?_;rintro n _ _ ⟨j,rfl,N,rfl,rfl⟩ IH;refine qx (gr [.d] (rd rfl (qcs rfl rfl rfl rfl) (qz (qx ?_))));by_cases hlt:j<v.length;have m:decide (((j:Nat):Int)<((v.length:Nat):Int))=true:=decide_eq_true oa;obtain⟨q,hq⟩:∃q,v[j]? =some q:=⟨_,jj hlt⟩
 have c:v.take (j+1)=v.take j++[q]:=by rw[jI,hq];rfl
 have L:mputO (setW (v.take j)) q ()=some (setW (v.take (j+1))):=by
  unfold mputO;rw[c,qxc];exact if_pos (by have:=qyg (v.take j);rw[jA]at this;omega)
 refine qa7 17 true rfl m (qS rfl (qaC (qx (qcj (qx (gr [.d,.d,.d] (rd rfl (qgj (f:=D.int .i64) v rfl qfK rfl (asl rfl) rfl (by rw[qfo];exact hq) (fun _=>rfl) rfl) (rd rfl (qak rfl rfl (by exact qgp) rfl) (rc rfl (qz (gr [.d,.d,.d,.w] (rf rfl (rf rfl ?_)))))))))))));refine rd rfl (qgS (zs:=[]) rfl BtI.h .nil (.nil _)) (qgd rfl rfl rfl (qnq (setW (v.take j)) q () rfl underlying348 (zaA underlying3) rfl rfl rfl (Wk.refl _) (pf0 _) L) (qz (qau (gr [.d,.d] (rd rfl (y4 (r:=((j+1:Nat):Int)) rfl rfl rfl (by simp[iar]) oa) (rf rfl (qz (qcS [(0,.lst (l.map zt)),(5,.map r),(14,.lst (v.map (D.int .i64))),(15,.int .i64 ((v.length:Nat):Int)),(16,.int .i64 ((j+1:Nat):Int))] (sc rfl (sc rfl (sc rfl (sc rfl (sc rfl (Sub.nil _)))))) ?_))))))));exact IH _ _ _ oa ⟨j+1,rfl,by omega,rfl,rfl⟩;have m:decide (((j:Nat):Int)<((v.length:Nat):Int))=false:=decide_eq_false oa;refine qa7 17 false rfl m (qL rfl (qi9 rfl ?_));have p:j=v.length:=by omega
 refine qcS [(0,.lst (l.map zt)),(5,.map r)] (sc rfl (sc rfl (Sub.nil _))) ?_;exact E _ _ ⟨rfl,by rw[p,jF]⟩
theorem qfO:Fld prog 189 0 0:=⟨_,_,1,underlying189,rfl,rfl,by kernel_rfl,by decide⟩
theorem qge:Fld prog 192 1 1:=⟨_,_,1,underlying192,rfl,rfl,by kernel_rfl,by decide⟩
theorem tyFlr:Ty prog 189 true 1:=⟨⟨_,underlying189,rfl⟩,by kernel_rfl⟩
theorem za0:Ty prog 38 true 7:=⟨⟨_,underlying38,rfl⟩,by kernel_rfl⟩
theorem qo3(v:Value)(w:World):(Instr.typeAssert (.iface 189 v) 20 189 true).run prog w= .ok (.tuple #[v,.bool true]) w:=by
 kernel_rfl
def qk4:qf:=⟨[],[]⟩
theorem qq7(v:Value)(w:World):(Op.equal 20 (.iface 189 v) .nilIface).run prog w= .ok false w:=rfl
theorem qsC{K:Ctx}(b f:Nat)(c g:Int)(l:qf)(p:Addr→Prop)(w:World)(v:Value)(hi:Inv K p [.cell f (.int .i64 g),.cell b (qj l)] w)(m:Rep p w (.ifc 189 (.agg [.int .i64 c])) v):
 CallsD prog 131 #[.pointer (some ⟨b,0,none⟩),.pointer (some ⟨f,0,none⟩)] (.panicking [{v,recovered:=false}]) w fun e n w'=>n= .panicking [{v,recovered:=true}]∧Left {K with X:=fun _ _=>False} (fun d σ=>d= .tup []∧σ=[.cell f (.int .i64 c),.cell b (qj qk4)]) e w':=by
 refine qpl func131 rfl rfl rfl rfl rfl rfl rfl od od od od hi m fun o=>?_;refine qx (qgw ob [(0,.d),(1,.d)] rfl (rf rfl (rd rfl (qq3 rfl rfl rfl qq7) (qz (qS rfl (qx (qgw ob [(0,.d),(1,.d),(2,.d),(3,.d),(4,.d),(5,.w),(6,.w),(7,.d)] rfl (rf rfl (rd rfl (qrk rfl qo3 rfl) (rf rfl (rd rfl (qec rfl rfl rfl) (rd rfl (qec rfl rfl rfl) (ew rfl (qd2 rfl ZvI.h) ?_)))))))))))));rintro _ _ ⟨a,rfl,rfl⟩;refine qgd rfl rfl rfl (qb0 _ rfl rfl rfl (Wk.refl _) (pf0 _) (by exact tyFlr) rfl rfl rfl) (rc rfl (qz (qfL 3 a rfl (pf0 _) (qx (qx (qgw ob [(0,.d),(1,.d)] rfl (rf rfl (rd rfl (ql8 rfl rfl) (qz (qL rfl (qaC (qx (qgw ob [(0,.w)] rfl ?_)))))))))))));refine ew rfl (qd2 rfl ZvI.h) ?_;rintro _ _ ⟨j,rfl,rfl⟩;refine qz (ga [(0,.r),(1,.d),(2,.d),(3,.w),(4,.w)] (r_r rfl rfl rfl (qc3 rfl rfl (.head _) rfl rfl (by exact qb1) rfl) (rd rfl (qan rfl qfO rfl rfl rfl rfl) (rd rfl (qak rfl rfl (by exact qdo) rfl) (qgd rfl rfl rfl (qb0 _ rfl rfl rfl (Wk.refl _) (pf2 _ _ _ _) (by exact qb1) rfl (qbL _) rfl) (qgd rfl rfl rfl (qb0 _ rfl rfl rfl (Wk.refl _) (pf2 _ _ _ _) (by exact qdo) rfl rfl rfl) (qz (qjd [_,_] _ ((pf1 _ _ _).trans (pf1 _ _ _)) (qtK func131 _ .nil ?_)))))))));exact⟨rfl,rfl⟩
theorem qq5{K:Ctx}{σ:St}(a b:Nat)(p:Addr→Prop)(w:World)(hi:Inv K p σ w):
 CallsD prog 131 #[.pointer (some ⟨a,0,none⟩),.pointer (some ⟨b,0,none⟩)] .returning w fun e c w'=>c= .returning∧Left {K with X:=fun _ _=>False} (fun d σ'=>d= .tup []∧σ'=σ) e w':=by
 refine qoi func131 rfl rfl rfl rfl rfl rfl rfl od od od od hi fun f=>?_;refine qx (qgw ob [(0,.d),(1,.d)] rfl (rf rfl (rd rfl (qsg rfl rfl fun _=>rfl) (qz (qL rfl (qaC (qtK func131 _ .nil ?_)))))));exact⟨rfl,rfl⟩
theorem qmy(fuel:Nat)(a0:List Int)(q:Int)(res:Int⊕(qf×Int))(hr:qc6 fuel a0 q=some res):zf prog 58 [.lst (a0.map (D.int .u8)),.int .i64 q,.clo (.func 59) [] [],.clo (.func 13) [] []] (.tup [qj (qfm res).1,.int .i64 (qfm res).2]):=by
 unfold qc6 at hr;refine qam [(0,.lst (a0.map (D.int .u8))),(1,.int .i64 q),(2,.clo (.func 59) [] []),(3,.clo (.func 13) [] [])] func58 rfl rfl fun K hK=>(qx (gr [.w,.w] (ew rfl (qd2 rfl ZvI.h) ?_)))
 rintro _ _ ⟨b,rfl,rfl⟩;refine ew rfl (qd2 rfl ZvI.h) ?_;rintro _ _ ⟨g,rfl,rfl⟩;refine qz (qx (qtY rfl rfl rfl rfl rfl rfl rfl rfl rfl od ?_));have hX:∀(e:Env)(c:Int),res= .inl c→lk e 8=some (.ref b 0 [])→lk e 9=some (.ref g 0 [])→zcv {Md.top with ds:={target:=.fn (.func 131) #[.pointer (some ⟨b,0,none⟩),.pointer (some ⟨g,0,none⟩)],args:=#[]}::Md.top.ds} prog Tryz.f58 K (fun d' _=>d'= .tup [qj (qfm res).1,.int .i64 (qfm res).2]) e (.ifc 189 (.agg [.int .i64 c])) [.cell g (.int .i64 0),.cell b (qj qk4)]:=fun e c A B C=>by
  refine qv5 (s1:=8) (s2:=9) (ds:=[qj qk4,.int .i64 c]) rfl CaI.h (fun p w v hi E=>qsC b g c 0 qk4 p w v hi E) (.cons (zam rfl (.tail _ (.head _)) (by exact qb1) (qbL _) (Wk.refl _)) (.cons (zam rfl (.head _) (by exact qdo) rfl (Wk.refl _)) .nil)) ?_ B C;rw[A];rfl
 refine qx (qf6 rfl rfl ob [(0,.d),(1,.d),(2,.w),(3,.d)] rfl (rf rfl (rd rfl (qgS rfl BtI.h (.oc rfl .nil) (.cons rfl rfl rfl (.nil _))) (ew rfl (qk2 rfl rfl rfl) ?_))));rintro _ _ ⟨j,rfl,rfl⟩;refine rc rfl (qz (qx (qf6 rfl rfl ob [(0,.d),(1,.d),(2,.d),(3,.w)] rfl (rf rfl (rf rfl (rf rfl ?_))))));rcases zaC hr with⟨t,u,rfl⟩|⟨F,u,hr⟩
 refine qmM rfl rfl (quH _ rfl CaI.h (.oc rfl (.oc rfl (.oc rfl .nil))) (by exact(pf0 _)) (qg0 (qaP _ _ _ _ _ u))) (hX _ _ rfl rfl rfl);refine ew rfl (qee _ rfl CaI.h (.oc rfl (.oc rfl (.oc rfl .nil))) (by exact(pf0 _)) (qic (qaP _ _ _ _ _ u))) ?_;rintro _ _ ⟨_,⟨rfl,rfl⟩,rfl⟩;refine r_st ((.cell j (qg F.2))::_) rfl (qz (qx (qf6 rfl rfl ob [(0,.d),(1,.d),(2,.w),(3,.w),(4,.w)] rfl (rf rfl (rf rfl ?_)))));rcases zaC hr with⟨x,z,rfl⟩|⟨G,z,hr⟩
 refine qmM rfl rfl (qrS _ rfl rfl CaI.h (.oc rfl .nil) rfl (by exact(pf0 _)) (qg0 (qdm fuel _ _ _ z))) (hX _ _ rfl rfl rfl);refine ew rfl (qok _ rfl rfl CaI.h (.oc rfl .nil) rfl (by exact(pf0 _)) (qic (qdm fuel _ _ _ z))) ?_;rintro _ _ ⟨_,⟨rfl,rfl⟩,rfl⟩;refine r_st ((.cell j (qg G.2))::_) rfl (ew rfl (qd2 rfl ZvI.h) ?_);rintro _ _ ⟨l,rfl,rfl⟩;refine qgd rfl rfl rfl (qb0 _ rfl rfl rfl (Wk.refl _) (pf0 _) (by exact qb1) (qbL _) rfl rfl) (qz (qfL 11 l rfl (pf0 _) (qx (qcj (qx (qf6 rfl rfl ob [(0,.d),(1,.d),(2,.d),(3,.r),(4,.d),(5,.d),(6,.d),(7,.d)] rfl (rf rfl (rd rfl (qkO rfl rfl) (rd rfl (qjO rfl qge rfl) (r_r rfl rfl rfl (qc3 rfl rfl (.head _) rfl rfl (by exact qgp) rfl) (rf rfl (rd rfl (qfU (f:=(D.int .u8)) a0 rfl ElI.h rfl (asl rfl)) (rd rfl (qcs rfl rfl rfl rfl) ?_)))))))))))));refine rc rfl (qz ?_);refine g_sB 23 rfl hr (fun m hr=>?_) (fun m hr=>?_);refine qS rfl (qf6 rfl rfl ob [(0,.d),(1,.d),(2,.w)] rfl (rd rfl (qgS rfl BtI.h (.oc rfl .nil) (.cons rfl rfl rfl (.nil _))) (rd rfl (qjy rfl underlying189 rfl) ?_)));cases hr;refine qmM rfl rfl (qm6 _ rfl rfl (vH (l₁:=[_]) (l₂:=[_,_]))) (hX _ _ rfl rfl rfl);refine qL rfl (qx (qf6 rfl rfl ob [(0,.d),(1,.d),(2,.d),(3,.d),(4,.d),(5,.d)] rfl (rf rfl (rd rfl (qak rfl rfl (by exact qb1) (qbL _)) ?_))));obtain⟨H,o,hr⟩:=zV hr;refine rd rfl (qiQ rfl rfl CaI.h (.oc rfl .nil) rfl (qg4 fuel _ _ o)) (rd rfl (qfU (f:=(D.int .u8)) H rfl ElI.h rfl (asl rfl)) (rd rfl (qcs rfl rfl rfl rfl) (rc rfl (qz ?_))));refine g_sB 33 rfl hr (fun n hr=>?_) (fun n hr=>?_);refine qS rfl (qf6 rfl rfl ob [(0,.d),(1,.d),(2,.w)] rfl (rd rfl (qgS rfl BtI.h (.oc rfl .nil) (.cons rfl rfl rfl (.nil _))) (rd rfl (qjy rfl underlying189 rfl) ?_)));cases hr;refine qmM rfl rfl (qm6 _ rfl rfl (vH (l₁:=[_]) (l₂:=[_,_]))) (hX _ _ rfl rfl rfl);refine qL rfl (qaC (qau (qx (qf6 rfl rfl ob [(0,.d),(1,.w),(2,.w)] rfl (rd rfl (qak rfl rfl (by exact qb1) (qbL _)) (qgd rfl rfl rfl (qb0 _ rfl rfl rfl (Wk.refl _) (pf2 _ _ _ _) (by exact qb1) (qbL _) rfl rfl) (qgd rfl rfl rfl (qb0 _ rfl rfl rfl (Wk.refl _) (pf2 _ _ _ _) (by exact qdo) rfl rfl rfl) (qz ?_))))))));cases hr;exact qzw rfl rfl fun p a w hi hr=>qpq (ds:=[_,_]) rfl CaI.h (fun p w hi=>qq5 _ _ p w hi) (s1:=8) (s2:=9) rfl rfl (.cons (zam rfl (.tail _ (.head _)) (by exact qb1) (qbL _) (Wk.refl _)) (.cons (zam rfl (.head _) (by exact qdo) rfl (Wk.refl _)) .nil)) rfl p a w hi hr
theorem qlT(fuel:Nat)(b:List Int)(n:Int)(res:qf×Int)(hr:qe4 fuel b n=some res):zf prog 58 [.lst (b.map (D.int .u8)),.int .i64 n,.clo (.func 59) [] [],.clo (.func 13) [] []] (.tup [qj res.1,.int .i64 res.2]):=by
 obtain⟨r,a,c⟩:=zV hr;rw[←Option.some.inj c];exact qmy fuel b n r a
def qnb:qe:=⟨[],[],[],[],0,0,false⟩
theorem qs0(v:Value)(w:World):(Op.equal 20 (.iface 189 v) .nilIface).run prog w= .ok false w:=rfl
theorem quR{K:Ctx}(b f:Nat)(c g:Int)(l:qe)(p:Addr→Prop)(w:World)(v:Value)(hi:Inv K p [.cell f (.int .i64 g),.cell b (qh l)] w)(m:Rep p w (.ifc 189 (.agg [.int .i64 c])) v):
 CallsD prog 114 #[.pointer (some ⟨b,0,none⟩),.pointer (some ⟨f,0,none⟩)] (.panicking [{v,recovered:=false}]) w fun e n w'=>n= .panicking [{v,recovered:=true}]∧Left {K with X:=fun _ _=>False} (fun d σ=>d= .tup []∧σ=[.cell f (.int .i64 c),.cell b (qh qnb)]) e w':=by
 refine qpl func114 rfl rfl rfl rfl rfl rfl rfl od od od od hi m fun o=>?_;refine qx (qgw ob [(0,.d),(1,.d)] rfl (rf rfl (rd rfl (qq3 rfl rfl rfl qs0) (qz (qS rfl (qx (qgw ob [(0,.d),(1,.d),(2,.d),(3,.d),(4,.d),(5,.w),(6,.w),(7,.d)] rfl (rf rfl (rd rfl (qrk rfl qo3 rfl) (rf rfl (rd rfl (qec rfl rfl rfl) (rd rfl (qec rfl rfl rfl) (ew rfl (qd2 rfl ZvI.h) ?_)))))))))))));rintro _ _ ⟨a,rfl,rfl⟩;refine qgd rfl rfl rfl (qb0 _ rfl rfl rfl (Wk.refl _) (pf0 _) (by exact tyFlr) rfl rfl rfl) (rc rfl (qz (qfL 3 a rfl (pf0 _) (qx (qx (qgw ob [(0,.d),(1,.d)] rfl (rf rfl (rd rfl (ql8 rfl rfl) (qz (qL rfl (qaC (qx (qgw ob [(0,.w)] rfl ?_)))))))))))));refine ew rfl (qd2 rfl ZvI.h) ?_;rintro _ _ ⟨j,rfl,rfl⟩;refine qz (ga [(0,.r),(1,.d),(2,.d),(3,.w),(4,.w)] (r_r rfl rfl rfl (qc3 rfl rfl (.head _) rfl rfl (by exact za0) rfl) (rd rfl (qan rfl qfO rfl rfl rfl rfl) (rd rfl (qak rfl rfl (by exact qdo) rfl) (qgd rfl rfl rfl (qb0 _ rfl rfl rfl (Wk.refl _) (pf2 _ _ _ _) (by exact za0) rfl (qdv _) rfl) (qgd rfl rfl rfl (qb0 _ rfl rfl rfl (Wk.refl _) (pf2 _ _ _ _) (by exact qdo) rfl rfl rfl) (qz (qjd [_,_] _ ((pf1 _ _ _).trans (pf1 _ _ _)) (qtK func114 _ .nil ?_)))))))));exact⟨rfl,rfl⟩
theorem qtf{K:Ctx}{σ:St}(a b:Nat)(p:Addr→Prop)(w:World)(hi:Inv K p σ w):
 CallsD prog 114 #[.pointer (some ⟨a,0,none⟩),.pointer (some ⟨b,0,none⟩)] .returning w fun e c w'=>c= .returning∧Left {K with X:=fun _ _=>False} (fun d σ'=>d= .tup []∧σ'=σ) e w':=by
 refine qoi func114 rfl rfl rfl rfl rfl rfl rfl od od od od hi fun f=>?_;refine qx (qgw ob [(0,.d),(1,.d)] rfl (rf rfl (rd rfl (qsg rfl rfl fun _=>rfl) (qz (qL rfl (qaC (qtK func114 _ .nil ?_)))))));exact⟨rfl,rfl⟩
theorem qnE(fuel:Nat)(a0:List Int)(q:Int)(res:Int⊕(qe×Int))(hr:qbt fuel a0 q=some res):zf prog 29 [.lst (a0.map (D.int .u8)),.int .i64 q,.clo (.func 30) [] [],.clo (.func 11) [] []] (.tup [qh (qfI res).1,.int .i64 (qfI res).2]):=by
 unfold qbt at hr;refine qam [(0,.lst (a0.map (D.int .u8))),(1,.int .i64 q),(2,.clo (.func 30) [] []),(3,.clo (.func 11) [] [])] func29 rfl rfl fun K hK=>(qx (gr [.w,.w] (ew rfl (qd2 rfl ZvI.h) ?_)))
 rintro _ _ ⟨b,rfl,rfl⟩;refine ew rfl (qd2 rfl ZvI.h) ?_;rintro _ _ ⟨g,rfl,rfl⟩;refine qz (qx (qtY rfl rfl rfl rfl rfl rfl rfl rfl rfl od ?_));have hX:∀(e:Env)(c:Int),res= .inl c→lk e 8=some (.ref b 0 [])→lk e 9=some (.ref g 0 [])→zcv {Md.top with ds:={target:=.fn (.func 114) #[.pointer (some ⟨b,0,none⟩),.pointer (some ⟨g,0,none⟩)],args:=#[]}::Md.top.ds} prog Tryz.f29 K (fun d' _=>d'= .tup [qh (qfI res).1,.int .i64 (qfI res).2]) e (.ifc 189 (.agg [.int .i64 c])) [.cell g (.int .i64 0),.cell b (qh qnb)]:=fun e c A B C=>by
  refine qv5 (s1:=8) (s2:=9) (ds:=[qh qnb,.int .i64 c]) rfl CaI.h (fun p w v hi E=>quR b g c 0 qnb p w v hi E) (.cons (zam rfl (.tail _ (.head _)) (by exact za0) (qdv _) (Wk.refl _)) (.cons (zam rfl (.head _) (by exact qdo) rfl (Wk.refl _)) .nil)) ?_ B C;rw[A];rfl
 refine qx (qf6 rfl rfl ob [(0,.d),(1,.d),(2,.w),(3,.d)] rfl (rf rfl (rd rfl (qgS rfl BtI.h (.oc rfl .nil) (.cons rfl rfl rfl (.nil _))) (ew rfl (qk2 rfl rfl rfl) ?_))));rintro _ _ ⟨j,rfl,rfl⟩;refine rc rfl (qz (qx (qf6 rfl rfl ob [(0,.d),(1,.d),(2,.d),(3,.w)] rfl (rf rfl (rf rfl (rf rfl ?_))))));rcases zaC hr with⟨t,u,rfl⟩|⟨F,u,hr⟩
 refine qmM rfl rfl (quH _ rfl CaI.h (.oc rfl (.oc rfl (.oc rfl .nil))) (by exact(pf0 _)) (qg0 (qaP _ _ _ _ _ u))) (hX _ _ rfl rfl rfl);refine ew rfl (qee _ rfl CaI.h (.oc rfl (.oc rfl (.oc rfl .nil))) (by exact(pf0 _)) (qic (qaP _ _ _ _ _ u))) ?_;rintro _ _ ⟨_,⟨rfl,rfl⟩,rfl⟩;refine r_st ((.cell j (qg F.2))::_) rfl (qz (qx (qf6 rfl rfl ob [(0,.d),(1,.d),(2,.w),(3,.w),(4,.w)] rfl (rf rfl (rf rfl ?_)))));rcases zaC hr with⟨x,z,rfl⟩|⟨G,z,hr⟩
 refine qmM rfl rfl (qrS _ rfl rfl CaI.h (.oc rfl .nil) rfl (by exact(pf0 _)) (qg0 (qdB fuel _ _ _ z))) (hX _ _ rfl rfl rfl);refine ew rfl (qok _ rfl rfl CaI.h (.oc rfl .nil) rfl (by exact(pf0 _)) (qic (qdB fuel _ _ _ z))) ?_;rintro _ _ ⟨_,⟨rfl,rfl⟩,rfl⟩;refine r_st ((.cell j (qg G.2))::_) rfl (ew rfl (qd2 rfl ZvI.h) ?_);rintro _ _ ⟨l,rfl,rfl⟩;refine qgd rfl rfl rfl (qb0 _ rfl rfl rfl (Wk.refl _) (pf0 _) (by exact za0) (qdv _) rfl rfl) (qz (qfL 11 l rfl (pf0 _) (qx (qcj (qx (qf6 rfl rfl ob [(0,.d),(1,.d),(2,.d),(3,.r),(4,.d),(5,.d),(6,.d),(7,.d)] rfl (rf rfl (rd rfl (qkO rfl rfl) (rd rfl (qjO rfl qge rfl) (r_r rfl rfl rfl (qc3 rfl rfl (.head _) rfl rfl (by exact qgp) rfl) (rf rfl (rd rfl (qfU (f:=(D.int .u8)) a0 rfl ElI.h rfl (asl rfl)) (rd rfl (qcs rfl rfl rfl rfl) ?_)))))))))))));refine rc rfl (qz ?_);refine g_sB 23 rfl hr (fun m hr=>?_) (fun m hr=>?_);refine qS rfl (qf6 rfl rfl ob [(0,.d),(1,.d),(2,.w)] rfl (rd rfl (qgS rfl BtI.h (.oc rfl .nil) (.cons rfl rfl rfl (.nil _))) (rd rfl (qjy rfl underlying189 rfl) ?_)));cases hr;refine qmM rfl rfl (qm6 _ rfl rfl (vH (l₁:=[_]) (l₂:=[_,_]))) (hX _ _ rfl rfl rfl);refine qL rfl (qx (qf6 rfl rfl ob [(0,.d),(1,.d),(2,.d),(3,.d),(4,.d),(5,.d)] rfl (rf rfl (rd rfl (qak rfl rfl (by exact za0) (qdv _)) ?_))));obtain⟨H,o,hr⟩:=zV hr;refine rd rfl (qiQ rfl rfl CaI.h (.oc rfl .nil) rfl (qhm fuel _ _ o)) (rd rfl (qfU (f:=(D.int .u8)) H rfl ElI.h rfl (asl rfl)) (rd rfl (qcs rfl rfl rfl rfl) (rc rfl (qz ?_))));refine g_sB 33 rfl hr (fun n hr=>?_) (fun n hr=>?_);refine qS rfl (qf6 rfl rfl ob [(0,.d),(1,.d),(2,.w)] rfl (rd rfl (qgS rfl BtI.h (.oc rfl .nil) (.cons rfl rfl rfl (.nil _))) (rd rfl (qjy rfl underlying189 rfl) ?_)));cases hr;refine qmM rfl rfl (qm6 _ rfl rfl (vH (l₁:=[_]) (l₂:=[_,_]))) (hX _ _ rfl rfl rfl);refine qL rfl (qaC (qau (qx (qf6 rfl rfl ob [(0,.d),(1,.w),(2,.w)] rfl (rd rfl (qak rfl rfl (by exact za0) (qdv _)) (qgd rfl rfl rfl (qb0 _ rfl rfl rfl (Wk.refl _) (pf2 _ _ _ _) (by exact za0) (qdv _) rfl rfl) (qgd rfl rfl rfl (qb0 _ rfl rfl rfl (Wk.refl _) (pf2 _ _ _ _) (by exact qdo) rfl rfl rfl) (qz ?_))))))));cases hr;exact qzw rfl rfl fun p a w hi hr=>qpq (ds:=[_,_]) rfl CaI.h (fun p w hi=>qtf _ _ p w hi) (s1:=8) (s2:=9) rfl rfl (.cons (zam rfl (.tail _ (.head _)) (by exact za0) (qdv _) (Wk.refl _)) (.cons (zam rfl (.head _) (by exact qdo) rfl (Wk.refl _)) .nil)) rfl p a w hi hr
theorem qmG(fuel:Nat)(b:List Int)(n:Int)(res:qe×Int)(hr:qew fuel b n=some res):zf prog 29 [.lst (b.map (D.int .u8)),.int .i64 n,.clo (.func 30) [] [],.clo (.func 11) [] []] (.tup [qh res.1,.int .i64 res.2]):=by
 obtain⟨r,a,c⟩:=zV hr;rw[←Option.some.inj c];exact qnE fuel b n r a
instance(fuel:Nat)(b:List Int)(n:Int):Cb prog 58 (qe4 fuel b n) [.lst (b.map (D.int .u8)),.int .i64 n,.clo (.func 59) [] [],.clo (.func 13) [] []] (fun res=>.tup [qj res.1,.int .i64 res.2]):=⟨qlT fuel b n⟩
instance(fuel:Nat)(b:List Int)(n:Int):Cb prog 29 (qew fuel b n) [.lst (b.map (D.int .u8)),.int .i64 n,.clo (.func 30) [] [],.clo (.func 11) [] []] (fun res=>.tup [qh res.1,.int .i64 res.2]):=⟨qmG fuel b n⟩
noncomputable section
instance(a0:List (Int×At))(a:List Int):Cb prog 255 (qhP a0 a) [.lst (a0.map zt),.lst (a.map (D.int .i64))] (fun(res:List Int)=>.lst (res.map (D.int .i64))):=⟨qs3 a0 a⟩
instance(a0:List (Int×At))(a:Int):Cb prog 200 (qiJ a0 a) [.lst (a0.map zt),.int .i64 a] (fun(res:(List (Int×At))×Bool)=>.tup [.lst (res.1.map zt),.bool res.2]):=⟨qwb a0 a⟩
instance(a0:List (List qy)):Cb prog 308 (qlG a0) [.lst (a0.map (fun(l:List qy)=>D.lst (l.map qC)))] (fun(res:List qy)=>.lst (res.map qC)):=⟨qvn a0⟩
instance(a0:List (Int×T))(a:(Int×T)):Cb prog 329 (qh5 a0 a) [.lst (a0.map zw),zw a] (fun(res:List (Int×T))=>.lst (res.map zw)):=⟨qsD a0 a⟩
instance(a0:List qu)(a:qu):Cb prog 202 (qh6 a0 a) [.lst (a0.map qp),qp a] (fun(res:(List qu)×Int)=>.tup [.lst (res.1.map qp),.int .i64 res.2]):=⟨quY a0 a⟩
instance:Co prog 368 qlP (fun b=>⟨[.map b],[],fun _ d σ=>∃c,d= .clo (.func 390) [] [.ref c 0 []]∧σ=[.cell c (.map b)]⟩):=⟨fun b _ _=>qsF b⟩
theorem qqA(b c:Nat)(l:List (Int×Int))(r:List Int)(h:qga l=some r):Spec prog 367 [.clo (.func 390) [] [.ref c 0 []]] [.cell c (.map b),.map b (zb (D.int .i64) (D.int .i64) l)] fun d σ=>d= .lst (r.map (D.int .i64))∧σ=[.map b (zb (D.int .i64) (D.int .i64) l)]:=by
 unfold qga at h;split at h
 rename_i a
 obtain rfl:=Option.some.inj h;exact qqg b c l a.1 a.2;cases h
instance(l:List (Int×Int)):Co prog 367 (qga l) (fun(nm:Nat×Nat)=>⟨[.clo (.func 390) [] [.ref nm.2 0 []]],[.cell nm.2 (.map nm.1),.map nm.1 (zb (D.int .i64) (D.int .i64) l)],fun r d σ=>d= .lst (r.map (D.int .i64))∧σ=[.map nm.1 (zb (D.int .i64) (D.int .i64) l)]⟩):=⟨fun nm r h=>qqA nm.1 nm.2 l r h⟩
end
noncomputable section
theorem wk9{G:Prop}(h:G:=by
 repeat' (first
  |(apply uR;first
   |apply qpH
   |apply qCe
   |refine qoL rfl cA ?_
   |refine z_rT rfl rfl rfl cA ?_
   |refine z_rF rfl rfl rfl cA ?_
   |refine z_rU rfl rfl rfl cA ?_
   |refine zcr rfl ?_
   |refine z_bg hr rfl rfl (fun hb hr=>?_) (fun hb hr=>?_)
   |refine z_kg rfl rfl knA ?_)
  |(apply uA;first
   |(apply uLen;first
    |refine qC2 rfl ?_
    |refine qBC rfl rfl ?_
    |refine qCm rfl ?_
    |refine qBL rfl ?_)
   |(apply uCt;first
    |(have hkx:=hX;clear hkx;first
     |((first|refine qxD _ rfl hr rfl rfl (by exact rfl) pkz hX (fun k e=>⟨k,e.symm,rfl⟩) ?_|refine qxD (_,_) rfl hr rfl rfl (by exact rfl) pkz hX (fun k e=>⟨k,e.symm,rfl⟩) ?_|refine qxD (_,_,_) rfl hr rfl rfl (by exact rfl) pkz hX (fun k e=>⟨k,e.symm,rfl⟩) ?_);intro r d sg hq hr hR;(repeat obtain⟨u,hR⟩:=hR);subst u;simp only[zbH,jy,jq]))
    |refine z_cv hr rfl rfl rfl (fun r hq hr=>?_)
    |((first|refine qzb _ rfl hr rfl rfl (by exact rfl) pkz ?_|refine qzb (_,_) rfl hr rfl rfl (by exact rfl) pkz ?_|refine qzb (_,_,_) rfl hr rfl rfl (by exact rfl) pkz ?_|refine qzb (_,_,_,_) rfl hr rfl rfl (by exact rfl) pkz ?_);intro r d sg hq hr hR;(repeat obtain⟨u,hR⟩:=hR);subst u;simp only[zbH,jy,jq]))
   |(apply uCf;first
    |(have hkx:=hX;clear hkx;first
     |(refine qDa rfl hr opA hX (fun k e=>⟨k,e.symm,rfl⟩) (fun r hq hr=>?_);simp only[zbH])
     |((first|refine qAa _ rfl hr (by exact rfl) opA pkz hX (fun k e=>⟨k,e.symm,rfl⟩) ?_|refine qAa (_,_) rfl hr (by exact rfl) opA pkz hX (fun k e=>⟨k,e.symm,rfl⟩) ?_|refine qAa (_,_,_) rfl hr (by exact rfl) opA pkz hX (fun k e=>⟨k,e.symm,rfl⟩) ?_);intro r d sg hq hr hR;(repeat obtain⟨u,hR⟩:=hR);subst u;simp only[zbH,jy,jq]))
    |refine z_cc hr opA (fun r hq hr=>?_)
    |((first|refine zch () rfl hr (by exact rfl) opA pkz ?_|refine zch _ rfl hr (by exact rfl) opA pkz ?_|refine zch (_,_) rfl hr (by exact rfl) opA pkz ?_|refine zch (_,_,_) rfl hr (by exact rfl) opA pkz ?_|refine zch (_,_,_,_) rfl hr (by exact rfl) opA pkz ?_|refine zch (_,_,_,_,_) rfl hr (by exact rfl) opA pkz ?_|refine zch (_,_,_,_,_,_,_) rfl hr (by exact rfl) opA pkz ?_|refine zch (_,_,_,_,_,_,_,_) rfl hr (by exact rfl) opA pkz ?_|refine zch (_,_,_,_,_,_) rfl hr (by exact rfl) opA pkz ?_);intro r d sg hq hr hR;(repeat obtain⟨u,hR⟩:=hR);subst u;simp only[jy,jq])
    |first|refine qyI hrx0 opA ?_|refine qyI hrx1 opA ?_|refine qyI hrx2 opA ?_|refine qyI hrx3 opA ?_
    |((first|refine qfl _ hrx0 rfl (by exact rfl) opA pkz ?_|refine qfl (_,_) hrx0 rfl (by exact rfl) opA pkz ?_|refine qfl (_,_,_) hrx0 rfl (by exact rfl) opA pkz ?_|refine qfl (_,_,_,_) hrx0 rfl (by exact rfl) opA pkz ?_|refine qfl (_,_,_,_,_) hrx0 rfl (by exact rfl) opA pkz ?_|refine qfl (_,_,_,_,_,_,_) hrx0 rfl (by exact rfl) opA pkz ?_|refine qfl (_,_,_,_,_,_,_,_) hrx0 rfl (by exact rfl) opA pkz ?_|refine qfl (_,_,_,_,_,_) hrx0 rfl (by exact rfl) opA pkz ?_|refine qfl _ hrx1 rfl (by exact rfl) opA pkz ?_|refine qfl (_,_) hrx1 rfl (by exact rfl) opA pkz ?_|refine qfl (_,_,_) hrx1 rfl (by exact rfl) opA pkz ?_|refine qfl (_,_,_,_) hrx1 rfl (by exact rfl) opA pkz ?_|refine qfl (_,_,_,_,_) hrx1 rfl (by exact rfl) opA pkz ?_|refine qfl (_,_,_,_,_,_,_) hrx1 rfl (by exact rfl) opA pkz ?_|refine qfl (_,_,_,_,_,_,_,_) hrx1 rfl (by exact rfl) opA pkz ?_|refine qfl (_,_,_,_,_,_) hrx1 rfl (by exact rfl) opA pkz ?_|refine qfl _ hrx2 rfl (by exact rfl) opA pkz ?_|refine qfl (_,_) hrx2 rfl (by exact rfl) opA pkz ?_|refine qfl (_,_,_) hrx2 rfl (by exact rfl) opA pkz ?_|refine qfl (_,_,_,_) hrx2 rfl (by exact rfl) opA pkz ?_|refine qfl (_,_,_,_,_) hrx2 rfl (by exact rfl) opA pkz ?_|refine qfl (_,_,_,_,_,_,_) hrx2 rfl (by exact rfl) opA pkz ?_|refine qfl (_,_,_,_,_,_,_,_) hrx2 rfl (by exact rfl) opA pkz ?_|refine qfl (_,_,_,_,_,_) hrx2 rfl (by exact rfl) opA pkz ?_|refine qfl _ hrx3 rfl (by exact rfl) opA pkz ?_|refine qfl (_,_) hrx3 rfl (by exact rfl) opA pkz ?_|refine qfl (_,_,_) hrx3 rfl (by exact rfl) opA pkz ?_|refine qfl (_,_,_,_) hrx3 rfl (by exact rfl) opA pkz ?_|refine qfl (_,_,_,_,_) hrx3 rfl (by exact rfl) opA pkz ?_|refine qfl (_,_,_,_,_,_,_) hrx3 rfl (by exact rfl) opA pkz ?_|refine qfl (_,_,_,_,_,_,_,_) hrx3 rfl (by exact rfl) opA pkz ?_|refine qfl (_,_,_,_,_,_) hrx3 rfl (by exact rfl) opA pkz ?_);intro d sg hR;(repeat obtain⟨u,hR⟩:=hR);subst u;simp only[zbH,jy,jq]))
   |(apply uBox;first
    |refine qDb rfl rfl ?_
    |refine qAm rfl rfl (fun b=>?_)
    |refine qBP rfl rfl rfl (fun b=>?_))
   |(apply uIdx;first
    |refine qCs hr rfl (fun q hq hr=>?_)
    |refine qBw hr rfl pkz lnE (fun q hq hr=>?_)
    |refine qAl rfl pkz (by assumption) lnE ?_
    |refine qzm (m:=0) rfl od rfl rfl ?_
    |refine qzm (m:=1) rfl od rfl rfl ?_
    |refine qBg (m:=0) rfl od ?_
    |refine qBg (m:=1) rfl od ?_
    |refine qCL rfl hr rfl pkz (fun q hq hr=>?_)
    |refine qAT rfl rfl pkz (by assumption) ?_
    |refine qBp (by assumption) rfl ?_)
   |(apply uBin;first
    |refine qDx rfl oa ?_
    |refine qBU rfl oa ?_
    |refine qCE rfl oa ?_
    |refine qC9 rfl ?_
    |refine qBT rfl od ?_
    |refine qC1 rfl rfl ?_
    |refine qDd rfl rfl ?_
    |refine qDM rfl ?_)
   |(apply uFld;first
    |refine z_ft rfl (ft0 _) rfl rfl ?_
    |refine z_ft rfl (ft1 _) rfl rfl ?_
    |refine z_ft rfl (ft2 _) rfl rfl ?_
    |refine z_ft rfl (ft3 _) rfl rfl ?_
    |refine z_fr rfl rfl rfl ?_
    |refine qDv rfl rfl rfl ?_)
   |(apply uLod;first
    |refine z_ld rfl rfl memA rfl rfl rfl szA ?_
    |refine qDJ rfl rfl memA rfl ofA rfl rfl szA ?_
    |refine qBq rfl rfl pkz (by assumption) rfl rfl rfl szA ?_
    |refine qBq rfl rfl pkz (qsl (by assumption)) rfl rfl rfl szA ?_
    |refine qC5 rfl rfl pkz (by assumption) rfl rfl rfl szA ?_)
   |(apply uSto;first
    |refine qBt rfl rfl pkz rfl rfl szA ?_
    |refine qDu rfl rfl pkz wkA rfl rfl szA szA ?_
    |refine zb5 [_] rfl rfl pkz rfl wkA rfl rfl szA szA rfl ?_
    |refine zb5 [_,_] rfl rfl pkz rfl wkA rfl rfl szA szA rfl ?_
    |refine zb5 [_,_,_] rfl rfl pkz rfl wkA rfl rfl szA szA rfl ?_
    |refine zb5 [_,_,_,_] rfl rfl pkz rfl wkA rfl rfl szA szA rfl ?_
    |refine zb5 [_,_,_,_,_] rfl rfl pkz rfl wkA rfl rfl szA szA rfl ?_
    |refine zb5 [_,_,_,_,_,_] rfl rfl pkz rfl wkA rfl rfl szA szA rfl ?_
    |refine zb5 [_,_,_,_,_,_,_] rfl rfl pkz rfl wkA rfl rfl szA szA rfl ?_
    |refine zb5 [_,_,_,_,_,_,_,_] rfl rfl pkz rfl wkA rfl rfl szA szA rfl ?_
    |refine qCc [_,_] rfl rfl pkz rfl ofA wkA rfl rfl szA szA rfl ?_
    |refine qCc [_,_,_] rfl rfl pkz rfl ofA wkA rfl rfl szA szA rfl ?_
    |refine qB2 rfl hr rfl pkz (by assumption) rfl wkA sdA rfl rfl szA szA (fun r hq hr=>?_)
    |refine qB2 rfl hr rfl pkz (qsl (by assumption)) rfl wkA sdA rfl rfl szA szA (fun r hq hr=>?_)
    |(refine qDl rfl hr rfl pkz (by assumption) rfl wkA sdA rfl rfl szA szA (fun r hq hr=>?_);try rw[←qiV hq]))
   |(apply uBl2;refine qBu rfl ?_)
   |(apply uBldA;first
    |refine qtD [_,_] rfl cB rfl ?_
    |refine qtD [_] rfl cB rfl ?_
    |refine qtD [_,_,_] rfl cB rfl ?_
    |refine qtD [_,_,_,_] rfl cB rfl ?_)
   |(apply uIxA;refine qC6 hr rfl rfl (fun q hq hr=>?_))
   |(apply uBld;first
    |refine qrg [] rfl cB ?_
    |refine qrg [_] rfl cB ?_
    |refine qrg [_,_] rfl cB ?_
    |refine qrg [_,_,_] rfl cB ?_
    |refine qrg [_,_,_,_] rfl cB ?_
    |refine qrg [_,_,_,_,_] rfl cB ?_
    |refine qrg [_,_,_,_,_,_] rfl cB ?_
    |refine qrg [_,_,_,_,_,_,_] rfl cB ?_)
   |(apply uLit;first
    |refine qBS rfl rfl hr rfl (Nat.succ_pos _) od (fun u hr=>?_)
    |refine qCa rfl rfl alA rfl od ?_
    |refine qCY rfl alA rfl od ?_
    |refine qAO rfl rfl (fun u=>?_)
    |refine qxk rfl ?_)
   |(apply uApp;first
    |refine qB9 rfl hr rfl rfl rfl pkz rfl (fun r u hq hr=>?_)
    |refine qCK hr rfl rfl rfl (fun r hq hr=>?_)
    |refine qCH rfl hr rfl rfl pkz (fun r u hq hr=>?_)
    |refine qBi (by assumption) rfl rfl rfl rfl pkz rfl (fun u=>?_))
   |(apply uAsg;refine qB5 rfl rfl (fun u=>?_))
   |(apply uAlc;first
    |refine qyq rfl rfl (fun b=>?_)
    |refine qBe rfl (fun b=>?_))
   |(apply uCnv;refine qCR rfl ?_)
   |(apply uNck;refine qDw rfl ?_)
   |(apply uSl3;refine qBo hr rfl (fun r hq hr=>?_))
   |(apply uSlT;refine qDz rfl hr rfl pkz (fun r u hq hr=>?_))
   |(apply uSlc;refine qDk hr rfl (by first|exact qAA|exact qAM rfl) (by first|exact qAv|exact qz2 rfl) (fun r hq hr=>?_))
   |(apply uMkf;refine qDC rfl ?_)
   |(apply uMks;first
    |refine qBa rfl hr rfl (fun r u hq hr=>?_)
    |refine qDi rfl hr rfl rfl (fun r b hq hr=>?_))
   |(apply uMk0;refine qDp rfl (fun r=>?_))
   |(apply uMk1;refine qBE rfl rfl (fun r=>?_))
   |(apply uLk1;refine qDN rfl (by exact rfl) pkz ?_)
   |(apply uLk0;refine qDg rfl (by exact rfl) pkz ?_)
   |(apply uUpd;refine qCX rfl hr (by exact rfl) wkA pkz (fun r hq hr=>?_))
   |(apply uMen;refine qCT rfl hr (by exact rfl) pkz (fun r es cl st hq hr hst=>?_))
   |(apply uEst;refine qDP rfl hr rfl wkA pkz (by assumption) (fun r hq hr=>?_))
   |(apply uIfc;refine qDs rfl rfl ?_)
   |(apply uPan;cases hr;exact qA9 rfl rfl hX ⟨_,rfl,rfl⟩)
   |(apply uMax;refine qDD rfl ?_)
   |(apply uMin;refine qDq rfl ?_))
  |apply qpA
  |(apply uG;first
   |(have hkt:=isKt hr;clear hkt;exact hkT hr (by assumption) rfl sbA rfl pkz)
   |(apply uSq;first
    |(refine qBh hr rfl rfl rfl remA (fun s hus hss hr=>?_) (fun kk HK hr=>?_)<;>try simp only[jy,jq])
    |(apply uSq2;refine qAj hr rfl rfl rfl remA (fun s hus hss hr=>?_) (fun kk HK hr=>?_)<;>try simp only[jy,jq])
    |apply qnY)
   |(apply uBk;first
    |(refine qBD hr rfl rfl rfl remA (fun s hus hss hr=>?_) (fun kk HK hr=>?_)<;>try simp only[jy,jq])
    |(refine qDf hr rfl rfl rfl sbA pkz lnA (fun s hus hss hd hr=>?_) (fun i q s hus hss nx hq hd hlt hl IH hr=>?_)<;>try simp only[jy,jq])
    |(refine qC4 hr rfl rfl rfl sbA pkz inA (fun s hus hss hd hr=>?_) (fun i s hus hss nx hd hl IH hr=>?_)<;>try simp only[jy,jq])
    |(refine qDr hr rfl rfl rfl sbA pkz inA inA (fun i s hus hss hd hr=>?_) (fun i s hus hss nx hd hlt hl hl' IH hr=>?_)<;>try simp only[jy,jq])
    |(refine qDh hr rfl rfl rfl sbA pkz (fun s hus hss nx IH hr=>?_)<;>try simp only[jy,jq])
    |apply qAN)
   |(apply uCd;first
    |refine qAE rfl ?_
    |refine qz7 rfl ?_
    |refine t_br hr rfl (fun hb hr=>?_) (fun hb hr=>?_)
    |refine t_cT rfl knA ?_
    |refine t_cF rfl knA ?_)
   |(apply uDf;refine qy7 rfl rfl rfl rfl rfl ?_)
   |(apply uRg0;first
    |refine qDn rfl rfl rfl rfl ?_
    |refine zbZ rfl ?_
    |refine qDG rfl ⟨rfl,rfl⟩ ?_)
   |(apply uRg1;first
    |(refine qCp rfl hr rfl remA (fun r hr=>?_) (fun r nm hq hr=>?_);rotate_left;(try simp only[J3,Option.some.injEq]at hq);(first|obtain⟨a1,e1,a2,e2,a3,e3,a4,e4,rfl⟩:=hq|obtain⟨a1,e1,a2,e2,a3,e3,rfl⟩:=hq|obtain⟨a1,e1,a2,e2,rfl⟩:=hq|obtain⟨a1,e1,rfl⟩:=hq|subst hq|skip);rotate_right;all_goals try simp only[jy,jq])
    |refine qCv rfl rfl rfl rfl rfl ?_
    |(have hkx:=hX;clear hkx;refine qB0 rfl rfl ?_)
    |refine qDE rfl rfl ?_)
   |(apply uEx;first
    |refine qz9 rfl rfl ?_
    |refine qCF rfl ?_)
   |apply qwI
   |apply qBb
   |apply qAK
   |apply qxh
   |(apply uRt;first
    |(cases hr;refine qCo (ds:=[_,_]) (by assumption) pkz ⟨_,_,rfl,rfl⟩ pkz zaX)
    |refine t_fr 0 rfl rfl pkz lnM ?_
    |refine t_fr 1 rfl rfl pkz lnM ?_
    |(refine uRn 0 rfl ?_;first|(have hkx:=hX;clear hkx;cases hr;first|refine qpP (ds:=[]) (by assumption) ⟨_,rfl,rfl⟩ zaX|refine qsw (ds:=[]) (by assumption) ⟨_,rfl,rfl,rfl⟩ pkz zaX|refine qsw (ds:=[]) (by assumption) ⟨_,rfl,_,rfl,rfl⟩ pkz zaX)|(cases hr;first|refine qpP (ds:=[]) (by assumption) rfl zaX|refine qsw (ds:=[]) (by assumption) ⟨rfl,rfl⟩ pkz zaX|refine qsw (ds:=[]) (by assumption) ⟨_,rfl,rfl⟩ pkz zaX|refine qsw (ds:=[]) (by assumption) ⟨_,_,rfl,rfl⟩ pkz zaX|refine qsw (ds:=[]) (by assumption) ⟨_,_,_,rfl,rfl⟩ pkz zaX))
    |(refine uRn 1 rfl ?_;first|(have hkx:=hX;clear hkx;cases hr;first|refine qpP (ds:=[_]) (by assumption) ⟨_,rfl,rfl⟩ zaX|refine qsw (ds:=[_]) (by assumption) ⟨_,rfl,rfl,rfl⟩ pkz zaX|refine qsw (ds:=[_]) (by assumption) ⟨_,rfl,_,rfl,rfl⟩ pkz zaX|refine qsw (ds:=[_]) (by assumption) ⟨_,rfl,_,_,rfl,rfl⟩ pkz zaX)|(cases hr;first|refine qpP (ds:=[_]) (by assumption) rfl zaX|refine qsw (ds:=[_]) (by assumption) ⟨rfl,rfl⟩ pkz zaX|refine qsw (ds:=[_]) (by assumption) ⟨_,rfl,rfl⟩ pkz zaX|refine qsw (ds:=[_]) (by assumption) ⟨_,_,rfl,rfl⟩ pkz zaX|refine qsw (ds:=[_]) (by assumption) ⟨_,_,_,rfl,rfl⟩ pkz zaX|refine qsw (ds:=[_]) (by assumption) ⟨_,_,_,_,rfl,rfl⟩ pkz zaX|refine qsw (ds:=[_]) (by assumption) ⟨_,_,_,_,_,rfl,rfl⟩ pkz zaX|refine qsw (ds:=[_]) (by assumption) ⟨_,_,_,_,_,_,rfl,rfl⟩ pkz zaX|refine qsw (ds:=[_]) (by assumption) ⟨_,_,_,_,_,_,_,rfl,rfl⟩ pkz zaX))
    |(refine uRn 2 rfl ?_;first|(have hkx:=hX;clear hkx;cases hr;first|refine qpP (ds:=[_,_]) (by assumption) ⟨_,rfl,rfl⟩ zaX|refine qsw (ds:=[_,_]) (by assumption) ⟨_,rfl,rfl,rfl⟩ pkz zaX|refine qsw (ds:=[_,_]) (by assumption) ⟨_,rfl,_,rfl,rfl⟩ pkz zaX|refine qsw (ds:=[_,_]) (by assumption) ⟨_,rfl,_,_,rfl,rfl⟩ pkz zaX)|(cases hr;first|refine qpP (ds:=[_,_]) (by assumption) rfl zaX|refine qsw (ds:=[_,_]) (by assumption) ⟨rfl,rfl⟩ pkz zaX|refine qsw (ds:=[_,_]) (by assumption) ⟨_,rfl,rfl⟩ pkz zaX|refine qsw (ds:=[_,_]) (by assumption) ⟨_,_,rfl,rfl⟩ pkz zaX|refine qsw (ds:=[_,_]) (by assumption) ⟨_,_,_,rfl,rfl⟩ pkz zaX))
    |(refine uRn 3 rfl ?_;first|(have hkx:=hX;clear hkx;cases hr;first|refine qpP (ds:=[_,_,_]) (by assumption) ⟨_,rfl,rfl⟩ zaX|refine qsw (ds:=[_,_,_]) (by assumption) ⟨_,rfl,rfl,rfl⟩ pkz zaX|refine qsw (ds:=[_,_,_]) (by assumption) ⟨_,rfl,_,rfl,rfl⟩ pkz zaX|refine qsw (ds:=[_,_,_]) (by assumption) ⟨_,rfl,_,_,rfl,rfl⟩ pkz zaX)|(cases hr;first|refine qpP (ds:=[_,_,_]) (by assumption) rfl zaX|refine qsw (ds:=[_,_,_]) (by assumption) ⟨rfl,rfl⟩ pkz zaX|refine qsw (ds:=[_,_,_]) (by assumption) ⟨_,rfl,rfl⟩ pkz zaX|refine qsw (ds:=[_,_,_]) (by assumption) ⟨_,_,rfl,rfl⟩ pkz zaX|refine qsw (ds:=[_,_,_]) (by assumption) ⟨_,_,_,rfl,rfl⟩ pkz zaX))
    |(refine uRn 4 rfl ?_;first|(have hkx:=hX;clear hkx;cases hr;first|refine qpP (ds:=[_,_,_,_]) (by assumption) ⟨_,rfl,rfl⟩ zaX|refine qsw (ds:=[_,_,_,_]) (by assumption) ⟨_,rfl,rfl,rfl⟩ pkz zaX|refine qsw (ds:=[_,_,_,_]) (by assumption) ⟨_,rfl,_,rfl,rfl⟩ pkz zaX|refine qsw (ds:=[_,_,_,_]) (by assumption) ⟨_,rfl,_,_,rfl,rfl⟩ pkz zaX)|(cases hr;first|refine qpP (ds:=[_,_,_,_]) (by assumption) rfl zaX|refine qsw (ds:=[_,_,_,_]) (by assumption) ⟨rfl,rfl⟩ pkz zaX|refine qsw (ds:=[_,_,_,_]) (by assumption) ⟨_,rfl,rfl⟩ pkz zaX|refine qsw (ds:=[_,_,_,_]) (by assumption) ⟨_,_,rfl,rfl⟩ pkz zaX|refine qsw (ds:=[_,_,_,_]) (by assumption) ⟨_,_,_,rfl,rfl⟩ pkz zaX)))
   |(apply uEn;first|(have hkx:=hX;clear hkx;cases hr;first|refine qDL (ds:=[]) (by assumption) ⟨_,rfl,rfl⟩ zaX|refine qBf (ds:=[]) (by assumption) ⟨_,rfl,rfl,rfl⟩ pkz zaX|refine qBf (ds:=[]) (by assumption) ⟨_,rfl,_,rfl,rfl⟩ pkz zaX)|(cases hr;first|refine qDL (ds:=[]) (by assumption) rfl zaX|refine qBf (ds:=[]) (by assumption) ⟨rfl,rfl⟩ pkz zaX|refine qBf (ds:=[]) (by assumption) ⟨_,rfl,rfl⟩ pkz zaX|refine qBf (ds:=[]) (by assumption) ⟨_,_,rfl,rfl⟩ pkz zaX|refine qBf (ds:=[]) (by assumption) ⟨_,_,_,rfl,rfl⟩ pkz zaX)))
  |(apply uPB0;first
   |(obtain⟨rx0,hrx0,hr⟩:=zV hr;refine pbS ?_)
   |(obtain rfl:=Option.some.inj hr;refine pbeg rfl ?_))
  |(apply uPB1;first
   |(obtain⟨rx1,hrx1,hr⟩:=zV hr;refine pbS ?_)
   |(obtain rfl:=Option.some.inj hr;refine pbeg rfl ?_))
  |(apply uPB2;first
   |(obtain⟨rx2,hrx2,hr⟩:=zV hr;refine pbS ?_)
   |(obtain rfl:=Option.some.inj hr;refine pbeg rfl ?_))
  |(apply uPB3;first
   |(obtain⟨rx3,hrx3,hr⟩:=zV hr;refine pbS ?_)
   |(obtain rfl:=Option.some.inj hr;refine pbeg rfl ?_))
  |(apply uPW;first
   |apply w_no
   |refine qDA ?_ ?_
   |exact qy8 _ rfl sbA pkz
   |exact qy8 (_,_) rfl sbA pkz
   |exact qy8 (_,_,_) rfl sbA pkz
   |exact qy8 (_,_,_,_) rfl sbA pkz)
  |refine qCk rfl pkz ?_
  |refine qDe rfl pkz lnM ?_
  |(apply uR;done))):G:=h
theorem wS9{G:Prop}(h:G:=by intro r hr K hK hF;exact wk9):G:=h
theorem wO9{G:Prop}(h:G:=by intro nm r hr K hK hF;exact wk9):G:=h
theorem wX9{G:Prop}(h:G:=by intro r hr K hK hX hF;exact wk9):G:=h
theorem wP9{G:Prop}(h:G:=by intro nm r hr K hK hX hF;exact wk9):G:=h
theorem wO2{G:Prop}(h:G:=by intro nm r hr K hK hF;obtain⟨x0,x1⟩:=nm;dsimp only at hK⊢;exact wk9):G:=h
theorem wO7{G:Prop}(h:G:=by intro nm r hr K hK hF;obtain⟨x0,x1,x2,x3,x4,x5,x6⟩:=nm;dsimp only at hK⊢;exact wk9):G:=h
theorem wO8{G:Prop}(h:G:=by intro nm r hr K hK hF;obtain⟨x0,x1,x2,x3,x4,x5,x6,x7⟩:=nm;dsimp only at hK⊢;exact wk9):G:=h
def qco(a0:List qu)(a:qe)(b:qf)(c:Int)(e:List (Int×Unit)):Option (Bool×(List (Int×Unit))):=(qdj a0 a b c e).bind fun d=>some ((decide (d.1≥(0:Int))),d.2)
instance(a0:List qu)(a:qe)(b:qf)(c:Int)(e:List (Int×Unit)):Co prog 183 (qco a0 a b c e) (fun(nm:Nat)=>⟨[.lst (a0.map qp),.clo (.func 184) [] [.ptr (.clo (.func 105) [.ptr (.agg [qh a,qj b,.map nm,.int .i64 c])] [])]],[.map nm (zb (D.int .i64) zM e)],fun res d σ=>d= .bool res.1∧σ=[.map nm (zb (D.int .i64) zM res.2)]⟩):=kO (fun _=>{}) func183 rfl (by unfold qco;exact wO9)
def qdw(a0:List qu)(a:qe)(b:qf)(c:Int)(e:List (Int×Unit)):Option (Bool×(List (Int×Unit))):=(qco a0 a b c e).bind fun d=>some ((!d.1),d.2)
instance(a0:List qu)(a:qe)(b:qf)(c:Int)(e:List (Int×Unit)):Co prog 104 (qdw a0 a b c e) (fun(nm:Nat)=>⟨[.lst (a0.map qp),.clo (.func 105) [.ptr (.agg [qh a,qj b,.map nm,.int .i64 c])] []],[.map nm (zb (D.int .i64) zM e)],fun res d σ=>d= .bool res.1∧σ=[.map nm (zb (D.int .i64) zM res.2)]⟩):=kO (fun _=>{}) func104 rfl (by unfold qdw;exact wO9)
def qbO(a0:qf)(a:qe):Option Bool:=(qdp a0).bind fun o=>bif(o.2 !=(0:Int))then some false else bif(decide ((a.fk.length:Int)>(1000:Int)))then some false else bif(decide (a.fl<(1:Int)))then some false else bif(decide (a.fl>(2147483648:Int)))then some false else bif(decide (a.fg<(0:Int)))then some false else bif(decide (a.fg>(1048576:Int)))then some false else (qeF a.fh).bind fun p=>bif(!p)then some false else (qeG a.fo).bind fun g=>bif(!g)then some false else (qcZ a.fC).bind fun h=>bif(!h)then some false else (qk0 a0).bind fun b=>forL (β:=(List (Int×Unit))) (fun _ j c l=>(mputO c j.1 ()).bind fun m=>l m) (fun c=>(qds a.fk a a0 (b.length:Int) c).bind fun d=>bif d.1 then (qdK a.fh a a0 (b.length:Int) d.2).bind fun e=>bif e.1 then (qdt a.fo a a0 (b.length:Int) e.2).bind fun f=>bif f.1 then (qdw a.fC a a0 (b.length:Int) f.2).bind fun n=>some n.1 else some false  else some false  else some false) 0 a.fo []
def qmD:Tb:={fz:=[(11,[9])],rg:=[(8,[(0,0),(1,0),(3,0),(4,0),(5,0),(2,1),(6,0),(7,0),(8,0)]),(12,[(0,0),(1,0),(2,0),(3,0),(4,0),(5,0),(6,0),(7,1)])],ls:=[(0,⟨Nat×(List (Int×Unit)),[3,7,66,67],[],fun s e w=>([(68,.int .i64 (s.1:Int))],[.map (oP e 7 [2]) (zb (D.int .i64) zM s.2)]),[67]⟩)]}
instance(a0:qf)(a:qe):Cb prog 26 (qbO a0 a) [qj a0,qh a] (fun res=>.bool res):=kC qmD func26 rfl (by unfold qbO;exact wS9)
def qaq(a0:Int)(a:Int)(b:Int):Option (List qQ):=some ([(⟨(⟨a0,a,b,0,[]⟩:qO),(⟨[],[]⟩:qv)⟩:qQ)])
instance(a0:Int)(a:Int)(b:Int):Cb prog 106 (qaq a0 a b) [.int .i64 a0,.int .i64 a,.int .i64 b] (fun res=>.lst (res.map qaV)):=kC {} func106 rfl (by unfold qaq;exact wS9)
def qf4(a0:qs):Option Int:=some ((wr ((a0.fm.length:Int)+(a0.ft.length:Int))))
instance(a0:qs):Cb prog 246 (qf4 a0) [qo a0] (fun res=>.int .i64 res):=kC {} func246 rfl (by unfold qf4;exact wS9)
def qfe(a0:qs):Option (List At):=(qf4 a0).bind fun a=>(zad 40 a).bind fun d=>(appO 40 [] a0.fm).bind fun b=>(appO 40 b a0.ft).bind fun c=>some c
def qoA:Tb:={ow:=[2]}
instance(a0:qs):Cb prog 189 (qfe a0) [qo a0] (fun res=>.lst (res.map zK)):=kC qoA func189 rfl (by unfold qfe;exact wS9)
def qfi(a0:List qu)(b:qu):Option Bool:=forL (β:=Unit) (fun _ c _ a=>(qcf c b).bind fun d=>bif(d==(0:Int))then some true else a ()) (fun _=>some false) 0 a0 ()
def qov:Tb:={ls:=[(0,⟨Nat×Unit,[0,3,7],[],fun s e w=>([(8,.int .i64 (s.1:Int))],[]),[7]⟩)]}
instance(a0:List qu)(a:qu):Cb prog 280 (qfi a0 a) [.lst (a0.map qp),qp a] (fun res=>.bool res):=kC qov func280 rfl (by unfold qfi;exact wS9)
def qfE(a0:(Int×T))(a:Int):Option Bool:=some ((a0.1==a))
instance(a0:(Int×T))(a:Int):Cb prog 350 (qfE a0 a) [zw a0,.ptr (.int .i64 a)] (fun res=>.bool res):=kC {} func350 rfl (by unfold qfE;exact wS9)
def qc8(a0:List (Int×T))(a:Int):Option Int:=forL (β:=Unit) (fun i1 c _ b=>(qfE c a).bind fun d=>bif d then some ((i1:Int))else b ()) (fun _=>some ((-1))) 0 a0 ()
def qiK:Tb:={ls:=[(0,⟨Nat×Unit,[0,1,7],[],fun s e w=>([(8,.int .i64 (s.1:Int))],[]),[7]⟩)]}
instance(a0:List (Int×T))(a:Int):Cb prog 349 (qc8 a0 a) [.lst (a0.map zw),.clo (.func 350) [] [.ptr (.int .i64 a)]] (fun res=>.int .i64 res):=kC qiK func349 rfl (by unfold qc8;exact wS9)
def qe8(a0:List (Int×T))(a:Int):Option Int:=(qc8 a0 a).bind fun b=>some b
instance(a0:List (Int×T))(a:Int):Cb prog 319 (qe8 a0 a) [.lst (a0.map zw),.int .i64 a] (fun res=>.int .i64 res):=kC {} func319 rfl (by unfold qe8;exact wS9)
def qc0(a0:Int):Option T:=some ((T.mk 1 a0 ⟨#[]⟩ []))
instance(a0:Int):Cb prog 310 (qc0 a0) [.int .i64 a0] (fun res=>zg res):=kC {} func310 rfl (by unfold qc0;exact wS9)
def qiq(a0:Int):Option T:=some ((T.mk 0 a0 ⟨#[]⟩ []))
instance(a0:Int):Cb prog 290 (qiq a0) [.int .i64 a0] (fun res=>zg res):=kC {} func290 rfl (by unfold qiq;exact wS9)
def qkr(a0:ByteArray)(a:List T):Option T:=some ((T.mk 2 0 a0 a))
instance(a0:ByteArray)(a:List T):Cb prog 320 (qkr a0 a) [.str a0,.lst (a.map zg)] (fun res=>zg res):=kC {} func320 rfl (by unfold qkr;exact wS9)
def qcV(rec:(List (Int×T))→Int→List T→Option (List T))(a0:List (Int×T))(b:Int)(a:T):Option T:=bif(a.k==(1:Int))then (qe8 a0 a.i).bind fun n=>bif(decide (n≥(0:Int)))then (getI a0 n).bind fun o=>some o.2 else bif(decide (b>(0:Int)))then bif(!(decide (a.i>(wr ((9223372036854775807:Int)-b)))))then bif(decide (b≥(0:Int)))then (qc0 (wr (a.i+b))).bind fun p=>some p else bif(decide (a.i≥(wr (((-9223372036854775808):Int)-b))))then (qc0 (wr (a.i+b))).bind fun c=>some c else (qc0 a.i).bind fun d=>some d   else (qc0 a.i).bind fun e=>some e  else bif(decide (b≥(0:Int)))then (qc0 (wr (a.i+b))).bind fun f=>some f else bif(decide (a.i≥(wr (((-9223372036854775808):Int)-b))))then (qc0 (wr (a.i+b))).bind fun g=>some g else (qc0 a.i).bind fun h=>some h      else bif(a.k==(0:Int))then (qiq a.i).bind fun j=>some j else bif(a.k==(2:Int))then (rec a0 b a.ar).bind fun l=>(qkr a.s l).bind fun m=>some m  else some a
def ql9:Tb:={rg:=[(14,[(0,0),(1,0),(2,0),(3,0),(4,0),(5,0),(6,0),(7,0),(8,1)])]}
theorem qlv(rec:(List (Int×T))→Int→List T→Option (List T))[IHR:∀(a0:List (Int×T))(c:Int)(a:List T),Cb prog 257 (rec a0 c a) [.lst (a0.map zw),.int .i64 c,.lst (a.map zg)] (fun(res:List T)=>.lst (res.map zg))](a0:List (Int×T))(c:Int)(b:T)(res:T)(hr:qcV rec a0 c b=some res):zf prog 296 [.lst (a0.map zw),.int .i64 c,zg b] (zg res):=by
 unfold qcV at hr;refine qdg ql9 func296 rfl fun K hK hF=>?_;exact wk9
instance(rec:(List (Int×T))→Int→List T→Option (List T))[IHR:∀(a0:List (Int×T))(c:Int)(b:List T),Cb prog 257 (rec a0 c b) [.lst (a0.map zw),.int .i64 c,.lst (b.map zg)] (fun(res:List T)=>.lst (res.map zg))](a0:List (Int×T))(c:Int)(a:T):Cb prog 296 (qcV rec a0 c a) [.lst (a0.map zw),.int .i64 c,zg a] (fun(res:T)=>zg res):=⟨qlv rec a0 c a⟩
def qb2:Nat→(List (Int×T))→Int→List T→Option (List T) |0,_,_,_=>none |fuel+1,a0,c,d=>(fun(rec:(List (Int×T))→Int→List T→Option (List T))=>forL (β:=(List T)) (fun _ e a b=>(qcV rec a0 c e).bind fun f=>(appO 56 a [f]).bind fun g=>b g) (fun a=>some a) 0 d []) (qb2 fuel)
def qkV:Tb:={ow:=[6,7],fz:=[(4,[9])],ls:=[(0,⟨Nat×(List T),[0,1,10,11],[7],fun s e w=>([(7,.own (oU e 7) (s.2.map zg)),(12,.int .i64 (s.1:Int))],[.row (oU e 7) s.2.length 77 4]),[11]⟩)]}
instance kr_match_instances:∀(fuel:Nat)(a0:List (Int×T))(a:Int)(b:List T),Cb prog 257 (qb2 fuel a0 a b) [.lst (a0.map zw),.int .i64 a,.lst (b.map zg)] (fun res=>.lst (res.map zg))
 |0,_,_,_=>⟨fun _ h=>by cases h⟩
 |fuel+1,_,_,_=>by
  have IHR:=kr_match_instances fuel;exact kC qkV func257 rfl (by unfold qb2;exact wS9)
def qbY(fuel:Nat)(a0:List (Int×T))(b:Int)(a:Gl):Option Gl:=(qb2 fuel a0 b a.ts).bind fun c=>some ((⟨a.op,a.n,c⟩:Gl))
def qjz:Tb:={rf:=[5]}
instance(fuel:Nat)(a0:List (Int×T))(a:Int)(b:Gl):Cb prog 198 (qbY fuel a0 a b) [.lst (a0.map zw),.int .i64 a,zG b] (fun res=>zG res):=kC qjz func198 rfl (by unfold qbY;exact wS9)
theorem qfq(l res:(List T))(hr:clO 56 l=some res):Spec prog 291 [.lst (l.map zg)] [] (fun d σ=>∃b,d= .arr b 4 0 res.length∧σ=[.arr b (res.map zg) 77 4]):=by
 obtain⟨h,rfl⟩:=qm2 hr;refine qdg {} func291 rfl fun K hK hF=>?_;exact zbv
instance(l:List T):Co prog 291 (clO 56 l) (fun(nm:Unit)=>⟨[.lst (l.map zg)],[],fun res d σ=>∃b,d= .arr b 4 0 res.length∧σ=[.arr b (res.map zg) 77 4]⟩):=⟨fun _ r h=>qfq l r h⟩
def qe1(a0:(Int×T))(a:Int):Option Bool:=some ((a0.1==a))
instance(a0:(Int×T))(a:Int):Cb prog 337 (qe1 a0 a) [zw a0,.ptr (.int .i64 a)] (fun res=>.bool res):=kC {} func337 rfl (by unfold qe1;exact wS9)
def qdc(a0:List (Int×T))(a:Int):Option Int:=forL (β:=Unit) (fun i1 c _ b=>(qe1 c a).bind fun d=>bif d then some ((i1:Int))else b ()) (fun _=>some ((-1))) 0 a0 ()
def qiN:Tb:={ls:=[(0,⟨Nat×Unit,[0,1,7],[],fun s e w=>([(8,.int .i64 (s.1:Int))],[]),[7]⟩)]}
instance(a0:List (Int×T))(a:Int):Cb prog 241 (qdc a0 a) [.lst (a0.map zw),.clo (.func 337) [] [.ptr (.int .i64 a)]] (fun res=>.int .i64 res):=kC qiN func241 rfl (by unfold qdc;exact wS9)
def qeT(a0:List (Int×T))(b:Int):Option (T×Bool):=(qdc a0 b).bind fun a=>bif(decide (a<(0:Int)))then some ((T.mk 0 0 ⟨#[]⟩ []),false)else (getI a0 a).bind fun c=>some (c.2,true)
instance(a0:List (Int×T))(a:Int):Cb prog 315 (qeT a0 a) [.lst (a0.map zw),.int .i64 a] (fun res=>.tup [zg res.1,.bool res.2]):=kC {} func315 rfl (by unfold qeT;exact wS9)
def qcJ(rec:(List (Int×T))→List T→Option (List T))(a0:List (Int×T))(a:T):Option T:=bif(a.k==(1:Int))then (qeT a0 a.i).bind fun b=>bif b.2 then some b.1 else some ((T.mk a.k a.i a.s a.ar))  else bif(a.k==(2:Int))then (rec a0 a.ar).bind fun c=>some ((T.mk a.k a.i a.s c)) else some ((T.mk a.k a.i a.s a.ar))
def qoD:Tb:={rf:=[3],ot:=[3],fz:=[(3,[5])]}
theorem qni(rec:(List (Int×T))→List T→Option (List T))[IHR:∀(a0:List (Int×T))(a:List T),Cb prog 253 (rec a0 a) [.lst (a0.map zw),.lst (a.map zg)] (fun(res:List T)=>.lst (res.map zg))](a0:List (Int×T))(b:T)(res:T)(hr:qcJ rec a0 b=some res):zf prog 289 [.lst (a0.map zw),zg b] (zg res):=by
 unfold qcJ at hr;refine qdg qoD func289 rfl fun K hK hF=>?_;exact wk9
instance(rec:(List (Int×T))→List T→Option (List T))[IHR:∀(a0:List (Int×T))(b:List T),Cb prog 253 (rec a0 b) [.lst (a0.map zw),.lst (b.map zg)] (fun(res:List T)=>.lst (res.map zg))](a0:List (Int×T))(a:T):Cb prog 289 (qcJ rec a0 a) [.lst (a0.map zw),zg a] (fun(res:T)=>zg res):=⟨qni rec a0 a⟩
def qbM:Nat→(List (Int×T))→List T→Option (List T) |0,_,_=>none |fuel+1,a0,d=>(fun(rec:(List (Int×T))→List T→Option (List T))=>(clO 56 d).bind fun c=>forC (β:=(List T)) (fun a a4 b=>(getI a4 a).bind fun e=>(qcJ rec a0 e).bind fun f=>(zaP a4 a f).bind fun g=>b g) (fun a4=>some a4) ((c.length:Int)-0:Int).toNat 0 c) (qbM fuel)
def qmI:Tb:={fb:=[(0,[5])],ls:=[(0,⟨Int×(List T),[0,10],[11],fun s e w=>([(11,.int .i64 s.1),(5,.arr (oB e 5) 4 0 s.2.length)],[.arr (oB e 5) (s.2.map zg) 77 4]),[10]⟩)]}
instance kr_subst_applied:∀(fuel:Nat)(a0:List (Int×T))(a:List T),Cb prog 253 (qbM fuel a0 a) [.lst (a0.map zw),.lst (a.map zg)] (fun res=>.lst (res.map zg))
 |0,_,_=>⟨fun _ h=>by cases h⟩
 |fuel+1,_,_=>by
  have IHR:=kr_subst_applied fuel;exact kC qmI func253 rfl (by unfold qbM;exact wS9)
def qhq(fuel:Nat)(a0:List (Int×T))(a:T):Option T:=qcJ (qbM fuel) a0 a
instance(fuel:Nat)(a0:List (Int×T))(a:T):Cb prog 289 (qhq fuel a0 a) [.lst (a0.map zw),zg a] (fun(res:T)=>zg res):=inferInstanceAs (Cb prog 289 (qcJ (qbM fuel) a0 a) [.lst (a0.map zw),zg a] (fun(res:T)=>zg res))
def qb6(fuel:Nat)(a0:List (Int×T))(a:Gl):Option Gl:=(qbM fuel a0 a.ts).bind fun b=>some ((⟨a.op,a.n,b⟩:Gl))
def qln:Tb:={rf:=[3]}
instance(fuel:Nat)(a0:List (Int×T))(a:Gl):Cb prog 193 (qb6 fuel a0 a) [.lst (a0.map zw),zG a] (fun res=>zG res):=kC qln func193 rfl (by unfold qb6;exact wS9)
def qfV(a0:Gl):Option Bool:=bif(decide ((5:Int)≤a0.op))then bif(decide (a0.op≤(12:Int)))then (qef a0).bind fun a=>some a else some false else some false
instance(a0:Gl):Cb prog 304 (qfV a0) [zG a0] (fun res=>.bool res):=kC {} func304 rfl (by unfold qfV;exact wS9)
def qV(a0:Bool):Option Int:=bif a0 then some (1)else some (2)
instance(a0:Bool):Cb prog 324 (qV a0) [.bool a0] (fun res=>.int .i64 res):=kC {} func324 rfl (by unfold qV;exact wS9)
def qev(a0:T):Option Bool:=(qeM a0).bind fun a=>some ((!a))
instance(a0:T):Cb prog 362 (qev a0) [zg a0] (fun res=>.bool res):=kC {} func362 rfl (by unfold qev;exact wS9)
def qdf(a0:List T):Option Int:=forL (β:=Unit) (fun i1 b _ a=>(qev b).bind fun c=>bif c then some ((i1:Int))else a ()) (fun _=>some ((-1))) 0 a0 ()
def qik:Tb:={ls:=[(0,⟨Nat×Unit,[0,1,7],[],fun s e w=>([(8,.int .i64 (s.1:Int))],[]),[7]⟩)]}
instance(a0:List T):Cb prog 388 (qdf a0) [.lst (a0.map zg),.clo (.func 362) [] []] (fun res=>.int .i64 res):=kC qik func388 rfl (by unfold qdf;exact wS9)
def qcp(a0:List T):Option Bool:=(qdf a0).bind fun a=>some ((decide (a≥(0:Int))))
instance(a0:List T):Cb prog 361 (qcp a0) [.lst (a0.map zg),.clo (.func 362) [] []] (fun res=>.bool res):=kC {} func361 rfl (by unfold qcp;exact wS9)
def qeD(a0:List T):Option Bool:=(qcp a0).bind fun a=>some ((!a))
instance(a0:List T):Cb prog 331 (qeD a0) [.lst (a0.map zg)] (fun res=>.bool res):=kC {} func331 rfl (by unfold qeD;exact wS9)
instance:MpI prog 404 Int Int (D.int .i64) (D.int .i64) 0:=⟨_,_,_,_,underlying404,(zaA underlying3),qB6⟩
instance:MpI prog 405 Int qk (D.int .i64) qA (⟨0,0⟩:qk):=⟨_,_,_,_,underlying405,(zaA underlying3),qmu⟩
def qeY:Option ((List qt)×(List Int)×(List (Int×Int))×(List (Int×Int))×(List (Int×Int))×(List (Int×qk))):=some ([],[],[],[],[],[])
def qlO:Tb:={rf:=[6],nl:=[(1,[(411,5,false),(3,1,true)])]}
instance:Co prog 332 (qeY) (fun(nm:Unit)=>⟨[],[],fun res d σ=>∃(a:Nat)(b:Value)(c:Nat)(e:Value)(f:Nat)(g:Nat)(h:Nat),d= .ref a 0 []∧σ=[.cell a (.agg [.own b (res.1.map qF),.map c,.vec e res.2.1.length,.map f,.map g,.map h]),.row b res.1.length 411 5,.map c (zb (D.int .i64) (D.int .i64) res.2.2.1),.vec e (res.2.1.map (D.int .i64)) 3 1,.map f (zb (D.int .i64) (D.int .i64) res.2.2.2.1),.map g (zb (D.int .i64) (D.int .i64) res.2.2.2.2.1),.map h (zb (D.int .i64) qA res.2.2.2.2.2)]⟩):=kO (fun _=>qlO) func332 rfl (by unfold qeY;exact wO9)
instance:EF prog 411 qt qF 5:=⟨qnM,fun _=>rfl⟩
def qaY:Nat→T→List qt→List Int→(List (Int×Int))→(List (Int×Int))→(List (Int×Int))→(List (Int×qk))→Option (Int×(List qt)×(List Int)×(List (Int×Int))×(List (Int×Int))×(List (Int×Int))×(List (Int×qk))) |0,_,_,_,_,_,_,_=>none |fuel+1,g,b,c,s2,w,x,z=>(fun(rec:T→List qt→List Int→(List (Int×Int))→(List (Int×Int))→(List (Int×Int))→(List (Int×qk))→Option (Int×(List qt)×(List Int)×(List (Int×Int))×(List (Int×Int))×(List (Int×Int))×(List (Int×qk))))=>bif(g.k==(1:Int))then bif((zk s2 g.i).isSome)then some (((zk s2 g.i).getD 0),b,c,s2,w,x,z)else forL (β:=(List qt)×(List Int)×(List (Int×Int))×(List (Int×Int))×(List (Int×Int))×(List (Int×qk))×T×(List Int)) (fun _ A(a,l,h,m,j,n,n16,n17) B=>((rec A a l h m j n).bind fun u=>(appO 8 n17 [u.1]).bind fun C=>some (u,C,n16)).bind fun d=>B (d.1.2.1,d.1.2.2.1,d.1.2.2.2.1,d.1.2.2.2.2.1,d.1.2.2.2.2.2.1,d.1.2.2.2.2.2.2,n16,d.2.1)) (fun(a,l,h,m,j,n,n16,n17)=>(appO 80 a [(⟨n16,n17⟩:qt)]).bind fun E=>(appO 8 l [(a.length:Int)]).bind fun F=>(mputO h g.i ((zk h g.i).getD 0)).bind fun G=>(mputO G g.i (a.length:Int)).bind fun H=>(mputO j (a.length:Int) ((zk j (a.length:Int)).getD 0)).bind fun I=>(mputO I (a.length:Int) g.i).bind fun J=>some ((a.length:Int),E,F,H,m,J,n)) 0 g.ar (b,c,s2,w,x,z,g,[])  else forL (β:=(List qt)×(List Int)×(List (Int×Int))×(List (Int×Int))×(List (Int×Int))×(List (Int×qk))×T×(List Int)) (fun _ K(e,o,p,q,r,t,n42,n43) L=>((rec K e o p q r t).bind fun v=>(appO 8 n43 [v.1]).bind fun M=>some (v,M,n42)).bind fun f=>L (f.1.2.1,f.1.2.2.1,f.1.2.2.2.1,f.1.2.2.2.2.1,f.1.2.2.2.2.2.1,f.1.2.2.2.2.2.2,n42,f.2.1)) (fun(e,o,p,q,r,t,n42,n43)=>(appO 80 e [(⟨n42,n43⟩:qt)]).bind fun N=>(appO 8 o [(e.length:Int)]).bind fun O=>(mputO q (e.length:Int) (e.length:Int)).bind fun P=>some ((e.length:Int),N,O,p,P,r,t)) 0 g.ar (b,c,s2,w,x,z,g,[])) (qaY fuel)
def qji(g:Nat)(h:Value)(a:Nat)(j:Value)(b:Nat)(c:Nat)(f:Nat):Tb:={fz:=[(8,[9])],rg:=[(2,[(0,0),(1,0),(2,0),(3,2),(4,0),(5,0),(6,2),(7,0),(8,0),(9,0),(10,0),(11,0)]),(12,[(0,0),(1,0),(2,0),(3,0),(4,2),(5,2),(6,0),(7,1),(8,0),(9,0),(10,1)]),(15,[(0,0),(1,0),(2,0),(3,2),(4,0),(5,0),(6,0),(7,0),(8,0),(9,2),(10,0),(11,0),(12,0),(13,0),(14,1),(15,0),(16,1),(17,1),(18,0),(19,1)])],pl:=[(9,⟨(Int×(List qt)×(List Int)×(List (Int×Int))×(List (Int×Int))×(List (Int×Int))×(List (Int×qk)))×(List Int)×T,Value×Value×Value,[0,3,7,29,30,31],fun e w=>[.ref g 0 [],.own (oS w [0]) [],.map a,.vec (oS w [2]) 0,.map b,.map c,.map f,.ref (oB e 7) 0 [],.own (oS w [1]) []],[(0,0),(2,0),(3,0)],(.cons 1 [] (.cons 4 [(5,.d)] (.cons 6 [(7,.d)] (.cons 8 [] .nil .nil) .nil) .nil) (.cons 4 [(5,.d)] (.cons 1 [] (.cons 6 [(7,.d)] (.cons 8 [] .nil .nil) .nil) .nil) .nil)),fun r nm e w=>([],[.cell (oB e 7) (.agg [zg r.2.2,.own nm.1 (r.2.1.map (D.int .i64))]),.row nm.1 r.2.1.length 3 1,.cell g (.agg [.own nm.2.1 (r.1.2.1.map qF),.map a,.vec nm.2.2 r.1.2.2.1.length,.map b,.map c,.map f]),.row nm.2.1 r.1.2.1.length 411 5,.map a (zb (D.int .i64) (D.int .i64) r.1.2.2.2.1),.vec nm.2.2 (r.1.2.2.1.map (D.int .i64)) 3 1,.map b (zb (D.int .i64) (D.int .i64) r.1.2.2.2.2.1),.map c (zb (D.int .i64) (D.int .i64) r.1.2.2.2.2.2.1),.map f (zb (D.int .i64) qA r.1.2.2.2.2.2.2)])⟩)],nl:=[(5,[(3,1,false)])],ls:=[(0,⟨Nat×((List qt)×(List Int)×(List (Int×Int))×(List (Int×Int))×(List (Int×Int))×(List (Int×qk))×T×(List Int)),[0,3,7,29,30],[0,7],fun s e w=>([(31,.int .i64 (s.1:Int))],[.cell g (.agg [.own (oS w [0]) (s.2.1.map qF),.map a,.vec (oS w [2]) s.2.2.1.length,.map b,.map c,.map f]),.row (oS w [0]) s.2.1.length 411 5,.map a (zb (D.int .i64) (D.int .i64) s.2.2.2.1),.vec (oS w [2]) (s.2.2.1.map (D.int .i64)) 3 1,.map b (zb (D.int .i64) (D.int .i64) s.2.2.2.2.1),.map c (zb (D.int .i64) (D.int .i64) s.2.2.2.2.2.1),.map f (zb (D.int .i64) qA s.2.2.2.2.2.2.1),.cell (oB e 7) (.agg [zg s.2.2.2.2.2.2.2.1,.own (oS w [1]) (s.2.2.2.2.2.2.2.2.map (D.int .i64))]),.row (oS w [1]) s.2.2.2.2.2.2.2.2.length 3 1]),[30]⟩)]}
instance kr_Punify_graph_add_s1:∀(fuel:Nat)(f:T)(a:List qt)(b:List Int)(s2:List (Int×Int))(g:List (Int×Int))(j:List (Int×Int))(l:List (Int×qk)),Co prog 334 (qaY fuel f a b s2 g j l) (fun(nm:Nat×Value×Nat×Value×Nat×Nat×Nat)=>⟨[.ref nm.1 0 [],zg f],[.cell nm.1 (.agg [.own nm.2.1 (a.map qF),.map nm.2.2.1,.vec nm.2.2.2.1 b.length,.map nm.2.2.2.2.1,.map nm.2.2.2.2.2.1,.map nm.2.2.2.2.2.2]),.row nm.2.1 a.length 411 5,.map nm.2.2.1 (zb (D.int .i64) (D.int .i64) s2),.vec nm.2.2.2.1 (b.map (D.int .i64)) 3 1,.map nm.2.2.2.2.1 (zb (D.int .i64) (D.int .i64) g),.map nm.2.2.2.2.2.1 (zb (D.int .i64) (D.int .i64) j),.map nm.2.2.2.2.2.2 (zb (D.int .i64) qA l)],fun res d σ=>∃(c:Value)(e:Value),d= .int .i64 res.1∧σ=[.cell nm.1 (.agg [.own c (res.2.1.map qF),.map nm.2.2.1,.vec e res.2.2.1.length,.map nm.2.2.2.2.1,.map nm.2.2.2.2.2.1,.map nm.2.2.2.2.2.2]),.row c res.2.1.length 411 5,.map nm.2.2.1 (zb (D.int .i64) (D.int .i64) res.2.2.2.1),.vec e (res.2.2.1.map (D.int .i64)) 3 1,.map nm.2.2.2.2.1 (zb (D.int .i64) (D.int .i64) res.2.2.2.2.1),.map nm.2.2.2.2.2.1 (zb (D.int .i64) (D.int .i64) res.2.2.2.2.2.1),.map nm.2.2.2.2.2.2 (zb (D.int .i64) qA res.2.2.2.2.2.2)]⟩)
 |0,_,_,_,_,_,_,_=>⟨fun _ _ h=>by cases h⟩
 |fuel+1,_,_,_,_,_,_,_=>by
  have IHR:=kr_Punify_graph_add_s1 fuel;exact kO (fun nm=>qji nm.1 nm.2.1 nm.2.2.1 nm.2.2.2.1 nm.2.2.2.2.1 nm.2.2.2.2.2.1 nm.2.2.2.2.2.2) func334 rfl (by unfold qaY;exact wO7)
end
noncomputable section
instance:AiI prog 366 2 1:=⟨_,⟨underlying366,by kernel_rfl⟩⟩
instance:PrI prog 366:=⟨_,⟨underlying366,by kernel_rfl,by kernel_rfl⟩⟩
instance:ElI prog 409 366 2 16:=⟨.of underlying409 ob od⟩
def qR(fuel:Nat)(l:Int)(a:List qt)(b:List Int)(s2:List (Int×Int))(n:List (Int×Int))(o:List (Int×Int))(p:List (Int×qk)):Option (Int×(List qt)×(List Int)):=forF (β:=Int×(List qt)×(List Int)) (fun(c,g,d) e=>(getI d c).bind fun h=>bif(h !=c)then (getI d h).bind fun m=>(zaP d c m).bind fun j=>(getI j c).bind fun f=>e (f,g,j)    else some (c,g,d)) fuel (l,a,b)
def qij(a:Nat)(g:Value)(b:Nat)(h:Value)(c:Nat)(d:Nat)(f:Nat):Tb:={rg:=[(2,[(0,0),(1,0),(2,0),(3,2),(4,0),(5,0),(6,0),(7,0),(8,2),(9,0),(10,0),(11,0),(12,2),(13,0),(14,2),(15,2),(16,2),(17,2),(18,2),(19,1)])],ls:=[(0,⟨Int×(List qt)×(List Int),[0],[0],fun s e w=>([(1,.int .i64 s.1)],[.cell a (.agg [.own (oS w [0]) (s.2.1.map qF),.map b,.vec (oS w [2]) s.2.2.length,.map c,.map d,.map f]),.row (oS w [0]) s.2.1.length 411 5,.vec (oS w [2]) (s.2.2.map (D.int .i64)) 3 1]),[]⟩)]}
theorem qiD(fuel:Nat)(r:Int)(f:List qt)(g:List Int)(s2:List (Int×Int))(o:List (Int×Int))(p:List (Int×Int))(q:List (Int×qk))(h:Nat)(j:Value)(a:Nat)(l:Value)(b:Nat)(c:Nat)(e:Nat)(res:Int×(List qt)×(List Int))(hr:qR fuel r f g s2 o p q=some res):Spec prog 363 [.ref h 0 [],.int .i64 r] [.cell h (.agg [.own j (f.map qF),.map a,.vec l g.length,.map b,.map c,.map e]),.row j f.length 411 5,.map a (zb (D.int .i64) (D.int .i64) s2),.vec l (g.map (D.int .i64)) 3 1,.map b (zb (D.int .i64) (D.int .i64) o),.map c (zb (D.int .i64) (D.int .i64) p),.map e (zb (D.int .i64) qA q)] (fun d σ=>∃(m:Value)(n:Value),d= .int .i64 res.1∧σ=[.cell h (.agg [.own m (res.2.1.map qF),.map a,.vec n res.2.2.length,.map b,.map c,.map e]),.row m res.2.1.length 411 5,.map a (zb (D.int .i64) (D.int .i64) s2),.vec n (res.2.2.map (D.int .i64)) 3 1,.map b (zb (D.int .i64) (D.int .i64) o),.map c (zb (D.int .i64) (D.int .i64) p),.map e (zb (D.int .i64) qA q)]):=by
 unfold qR at hr;refine qdR (qij h j a l b c e) func363 rfl fun K hK hF=>?_;exact wk9
instance(fuel:Nat)(j:Int)(a:List qt)(b:List Int)(s2:List (Int×Int))(f:List (Int×Int))(g:List (Int×Int))(h:List (Int×qk)):Co prog 363 (qR fuel j a b s2 f g h) (fun(nm:Nat×Value×Nat×Value×Nat×Nat×Nat)=>⟨[.ref nm.1 0 [],.int .i64 j],[.cell nm.1 (.agg [.own nm.2.1 (a.map qF),.map nm.2.2.1,.vec nm.2.2.2.1 b.length,.map nm.2.2.2.2.1,.map nm.2.2.2.2.2.1,.map nm.2.2.2.2.2.2]),.row nm.2.1 a.length 411 5,.map nm.2.2.1 (zb (D.int .i64) (D.int .i64) s2),.vec nm.2.2.2.1 (b.map (D.int .i64)) 3 1,.map nm.2.2.2.2.1 (zb (D.int .i64) (D.int .i64) f),.map nm.2.2.2.2.2.1 (zb (D.int .i64) (D.int .i64) g),.map nm.2.2.2.2.2.2 (zb (D.int .i64) qA h)],fun res d σ=>∃(c:Value)(e:Value),d= .int .i64 res.1∧σ=[.cell nm.1 (.agg [.own c (res.2.1.map qF),.map nm.2.2.1,.vec e res.2.2.length,.map nm.2.2.2.2.1,.map nm.2.2.2.2.2.1,.map nm.2.2.2.2.2.2]),.row c res.2.1.length 411 5,.map nm.2.2.1 (zb (D.int .i64) (D.int .i64) s2),.vec e (res.2.2.map (D.int .i64)) 3 1,.map nm.2.2.2.2.1 (zb (D.int .i64) (D.int .i64) f),.map nm.2.2.2.2.2.1 (zb (D.int .i64) (D.int .i64) g),.map nm.2.2.2.2.2.2 (zb (D.int .i64) qA h)]⟩):=⟨fun nm=>qiD fuel j a b s2 f g h nm.1 nm.2.1 nm.2.2.1 nm.2.2.2.1 nm.2.2.2.2.1 nm.2.2.2.2.2.1 nm.2.2.2.2.2.2⟩
def qa8(d:Int)(e:Int)(a:List qt)(c:List Int)(s2:List (Int×Int))(h:List (Int×Int))(j:List (Int×Int))(l:List (Int×qk)):Option Bool:=((getI a d).bind fun f=>(getI a e).bind fun g=>some (f,g)).bind fun b=>bif(b.1.f0_term.k==b.2.f0_term.k)then bif(b.1.f0_term.i==b.2.f0_term.i)then bif(b.1.f0_term.s.toList==b.2.f0_term.s.toList)then some (((b.1.f0_term.ar.length:Int)==(b.2.f0_term.ar.length:Int)))else some false else some false else some false
def qh9(a:Nat)(b:Value)(c:Nat)(f:Value)(g:Nat)(h:Nat)(j:Nat):Tb:={fz:=[(1,[7,8])],pl:=[(1,⟨qt×qt,Nat×Nat,[],fun e w=>[],[(0,0),(1,0),(2,0),(4,0),(8,0),(9,0),(10,0),(12,0)],(.cons 3 [(5,.d),(6,.d),(7,.d)] (.cons 11 [(13,.d),(14,.d),(15,.d)] (.cons 16 [] (.cons 17 [] (.cons 18 [] (.cons 19 [] .nil .nil) .nil) .nil) (.cons 17 [] (.cons 16 [] (.cons 18 [] (.cons 19 [] .nil .nil) .nil) .nil) .nil)) (.cons 16 [] (.cons 11 [(13,.d),(14,.d),(15,.d)] (.cons 17 [] (.cons 18 [] (.cons 19 [] .nil .nil) .nil) .nil) (.cons 17 [] (.cons 11 [(13,.d),(14,.d),(15,.d)] (.cons 18 [] (.cons 19 [] .nil .nil) .nil) (.cons 18 [] (.cons 11 [(13,.d),(14,.d),(15,.d)] (.cons 19 [] .nil .nil) .nil) .nil)) .nil)) (.cons 17 [] (.cons 11 [(13,.d),(14,.d),(15,.d)] (.cons 16 [] (.cons 18 [] (.cons 19 [] .nil .nil) .nil) .nil) (.cons 16 [] (.cons 11 [(13,.d),(14,.d),(15,.d)] (.cons 18 [] (.cons 19 [] .nil .nil) .nil) (.cons 18 [] (.cons 11 [(13,.d),(14,.d),(15,.d)] (.cons 19 [] .nil .nil) .nil) .nil)) .nil)) .nil))) (.cons 11 [(13,.d),(14,.d),(15,.d)] (.cons 3 [(5,.d),(6,.d),(7,.d)] (.cons 16 [] (.cons 17 [] (.cons 18 [] (.cons 19 [] .nil .nil) .nil) .nil) (.cons 17 [] (.cons 16 [] (.cons 18 [] (.cons 19 [] .nil .nil) .nil) .nil) .nil)) (.cons 16 [] (.cons 3 [(5,.d),(6,.d),(7,.d)] (.cons 17 [] (.cons 18 [] (.cons 19 [] .nil .nil) .nil) .nil) (.cons 17 [] (.cons 3 [(5,.d),(6,.d),(7,.d)] (.cons 18 [] (.cons 19 [] .nil .nil) .nil) .nil) .nil)) (.cons 17 [] (.cons 3 [(5,.d),(6,.d),(7,.d)] (.cons 16 [] (.cons 18 [] (.cons 19 [] .nil .nil) .nil) .nil) (.cons 16 [] (.cons 3 [(5,.d),(6,.d),(7,.d)] (.cons 18 [] (.cons 19 [] .nil .nil) .nil) .nil) .nil)) .nil))) (.cons 16 [] (.cons 3 [(5,.d),(6,.d),(7,.d)] (.cons 11 [(13,.d),(14,.d),(15,.d)] (.cons 17 [] (.cons 18 [] (.cons 19 [] .nil .nil) .nil) .nil) (.cons 17 [] (.cons 11 [(13,.d),(14,.d),(15,.d)] (.cons 18 [] (.cons 19 [] .nil .nil) .nil) (.cons 18 [] (.cons 11 [(13,.d),(14,.d),(15,.d)] (.cons 19 [] .nil .nil) .nil) .nil)) .nil)) (.cons 11 [(13,.d),(14,.d),(15,.d)] (.cons 3 [(5,.d),(6,.d),(7,.d)] (.cons 17 [] (.cons 18 [] (.cons 19 [] .nil .nil) .nil) .nil) (.cons 17 [] (.cons 3 [(5,.d),(6,.d),(7,.d)] (.cons 18 [] (.cons 19 [] .nil .nil) .nil) .nil) .nil)) (.cons 17 [] (.cons 3 [(5,.d),(6,.d),(7,.d)] (.cons 11 [(13,.d),(14,.d),(15,.d)] (.cons 18 [] (.cons 19 [] .nil .nil) .nil) (.cons 18 [] (.cons 11 [(13,.d),(14,.d),(15,.d)] (.cons 19 [] .nil .nil) .nil) .nil)) (.cons 11 [(13,.d),(14,.d),(15,.d)] (.cons 3 [(5,.d),(6,.d),(7,.d)] (.cons 18 [] (.cons 19 [] .nil .nil) .nil) .nil) .nil)) .nil))) (.cons 17 [] (.cons 3 [(5,.d),(6,.d),(7,.d)] (.cons 11 [(13,.d),(14,.d),(15,.d)] (.cons 16 [] (.cons 18 [] (.cons 19 [] .nil .nil) .nil) .nil) (.cons 16 [] (.cons 11 [(13,.d),(14,.d),(15,.d)] (.cons 18 [] (.cons 19 [] .nil .nil) .nil) (.cons 18 [] (.cons 11 [(13,.d),(14,.d),(15,.d)] (.cons 19 [] .nil .nil) .nil) .nil)) .nil)) (.cons 11 [(13,.d),(14,.d),(15,.d)] (.cons 3 [(5,.d),(6,.d),(7,.d)] (.cons 16 [] (.cons 18 [] (.cons 19 [] .nil .nil) .nil) .nil) (.cons 16 [] (.cons 3 [(5,.d),(6,.d),(7,.d)] (.cons 18 [] (.cons 19 [] .nil .nil) .nil) .nil) .nil)) (.cons 16 [] (.cons 3 [(5,.d),(6,.d),(7,.d)] (.cons 11 [(13,.d),(14,.d),(15,.d)] (.cons 18 [] (.cons 19 [] .nil .nil) .nil) (.cons 18 [] (.cons 11 [(13,.d),(14,.d),(15,.d)] (.cons 19 [] .nil .nil) .nil) .nil)) (.cons 11 [(13,.d),(14,.d),(15,.d)] (.cons 3 [(5,.d),(6,.d),(7,.d)] (.cons 18 [] (.cons 19 [] .nil .nil) .nil) .nil) .nil)) .nil))) .nil)))),fun r nm e w=>([(7,.ref nm.2 0 []),(8,.ref nm.1 0 [])],[.cell nm.1 (zg r.2.f0_term),.cell nm.2 (zg r.1.f0_term)])⟩)]}
theorem qh2(r:Int)(t:Int)(a:List qt)(b:List Int)(s2:List (Int×Int))(o:List (Int×Int))(p:List (Int×Int))(q:List (Int×qk))(h:Nat)(j:Value)(c:Nat)(l:Value)(e:Nat)(f:Nat)(g:Nat)(res:Bool)(hr:qa8 r t a b s2 o p q=some res):Spec prog 364 [.ref h 0 [],.int .i64 r,.int .i64 t] [.cell h (.agg [.own j (a.map qF),.map c,.vec l b.length,.map e,.map f,.map g]),.row j a.length 411 5,.map c (zb (D.int .i64) (D.int .i64) s2),.vec l (b.map (D.int .i64)) 3 1,.map e (zb (D.int .i64) (D.int .i64) o),.map f (zb (D.int .i64) (D.int .i64) p),.map g (zb (D.int .i64) qA q)] (fun d σ=>∃(m:Value)(n:Value),d= .bool res∧σ=[.cell h (.agg [.own m (a.map qF),.map c,.vec n b.length,.map e,.map f,.map g]),.row m a.length 411 5,.map c (zb (D.int .i64) (D.int .i64) s2),.vec n (b.map (D.int .i64)) 3 1,.map e (zb (D.int .i64) (D.int .i64) o),.map f (zb (D.int .i64) (D.int .i64) p),.map g (zb (D.int .i64) qA q)]):=by
 unfold qa8 at hr;refine qdR (qh9 h j c l e f g) func364 rfl fun K hK hF=>?_;exact wk9
instance(j:Int)(l:Int)(a:List qt)(b:List Int)(s2:List (Int×Int))(f:List (Int×Int))(g:List (Int×Int))(h:List (Int×qk)):Co prog 364 (qa8 j l a b s2 f g h) (fun(nm:Nat×Value×Nat×Value×Nat×Nat×Nat)=>⟨[.ref nm.1 0 [],.int .i64 j,.int .i64 l],[.cell nm.1 (.agg [.own nm.2.1 (a.map qF),.map nm.2.2.1,.vec nm.2.2.2.1 b.length,.map nm.2.2.2.2.1,.map nm.2.2.2.2.2.1,.map nm.2.2.2.2.2.2]),.row nm.2.1 a.length 411 5,.map nm.2.2.1 (zb (D.int .i64) (D.int .i64) s2),.vec nm.2.2.2.1 (b.map (D.int .i64)) 3 1,.map nm.2.2.2.2.1 (zb (D.int .i64) (D.int .i64) f),.map nm.2.2.2.2.2.1 (zb (D.int .i64) (D.int .i64) g),.map nm.2.2.2.2.2.2 (zb (D.int .i64) qA h)],fun res d σ=>∃(c:Value)(e:Value),d= .bool res∧σ=[.cell nm.1 (.agg [.own c (a.map qF),.map nm.2.2.1,.vec e b.length,.map nm.2.2.2.2.1,.map nm.2.2.2.2.2.1,.map nm.2.2.2.2.2.2]),.row c a.length 411 5,.map nm.2.2.1 (zb (D.int .i64) (D.int .i64) s2),.vec e (b.map (D.int .i64)) 3 1,.map nm.2.2.2.2.1 (zb (D.int .i64) (D.int .i64) f),.map nm.2.2.2.2.2.1 (zb (D.int .i64) (D.int .i64) g),.map nm.2.2.2.2.2.2 (zb (D.int .i64) qA h)]⟩):=⟨fun nm=>qh2 j l a b s2 f g h nm.1 nm.2.1 nm.2.2.1 nm.2.2.2.1 nm.2.2.2.2.1 nm.2.2.2.2.2.1 nm.2.2.2.2.2.2⟩
def q9(d:Int)(c:Int)(a:List qt)(f:List Int)(s2:List (Int×Int))(e:List (Int×Int))(b:List (Int×Int))(p:List (Int×qk)):Option ((List qt)×(List Int)×(List (Int×Int))×(List (Int×Int))):=(getI f c).bind fun q=>(zaP f c d).bind fun l2=>bif((zk e c).isSome)then bif(!((zk e d).isSome))then (mputO e d ((zk e c).getD 0)).bind fun g=>bif((zk b c).isSome)then bif(!((zk b d).isSome))then (mputO b d ((zk b c).getD 0)).bind fun o=>some (a,l2,g,o) else bif(decide (((zk b c).getD 0)<((zk b d).getD 0)))then (mputO b d ((zk b c).getD 0)).bind fun h=>some (a,l2,g,h) else some (a,l2,g,b)  else some (a,l2,g,b)  else bif((zk b c).isSome)then bif(!((zk b d).isSome))then (mputO b d ((zk b c).getD 0)).bind fun j=>some (a,l2,e,j) else bif(decide (((zk b c).getD 0)<((zk b d).getD 0)))then (mputO b d ((zk b c).getD 0)).bind fun l=>some (a,l2,e,l) else some (a,l2,e,b)  else some (a,l2,e,b)  else bif((zk b c).isSome)then bif(!((zk b d).isSome))then (mputO b d ((zk b c).getD 0)).bind fun m=>some (a,l2,e,m) else bif(decide (((zk b c).getD 0)<((zk b d).getD 0)))then (mputO b d ((zk b c).getD 0)).bind fun n=>some (a,l2,e,n) else some (a,l2,e,b)  else some (a,l2,e,b)
theorem qif(p:Int)(q:Int)(a:List qt)(b:List Int)(s2:List (Int×Int))(r:List (Int×Int))(t:List (Int×Int))(o:List (Int×qk))(h:Nat)(m:Value)(c:Nat)(n:Value)(e:Nat)(f:Nat)(g:Nat)(res:(List qt)×(List Int)×(List (Int×Int))×(List (Int×Int)))(hr:q9 p q a b s2 r t o=some res):Spec prog 365 [.ref h 0 [],.int .i64 p,.int .i64 q] [.cell h (.agg [.own m (a.map qF),.map c,.vec n b.length,.map e,.map f,.map g]),.row m a.length 411 5,.map c (zb (D.int .i64) (D.int .i64) s2),.vec n (b.map (D.int .i64)) 3 1,.map e (zb (D.int .i64) (D.int .i64) r),.map f (zb (D.int .i64) (D.int .i64) t),.map g (zb (D.int .i64) qA o)] (fun d σ=>∃(j:Value)(l:Value),d= .tup []∧σ=[.cell h (.agg [.own j (res.1.map qF),.map c,.vec l res.2.1.length,.map e,.map f,.map g]),.row j res.1.length 411 5,.map c (zb (D.int .i64) (D.int .i64) s2),.vec l (res.2.1.map (D.int .i64)) 3 1,.map e (zb (D.int .i64) (D.int .i64) res.2.2.1),.map f (zb (D.int .i64) (D.int .i64) res.2.2.2),.map g (zb (D.int .i64) qA o)]):=by
 unfold q9 at hr;refine qdR {} func365 rfl fun K hK hF=>?_;exact wk9
instance(g:Int)(h:Int)(a:List qt)(b:List Int)(s2:List (Int×Int))(j:List (Int×Int))(l:List (Int×Int))(f:List (Int×qk)):Co prog 365 (q9 g h a b s2 j l f) (fun(nm:Nat×Value×Nat×Value×Nat×Nat×Nat)=>⟨[.ref nm.1 0 [],.int .i64 g,.int .i64 h],[.cell nm.1 (.agg [.own nm.2.1 (a.map qF),.map nm.2.2.1,.vec nm.2.2.2.1 b.length,.map nm.2.2.2.2.1,.map nm.2.2.2.2.2.1,.map nm.2.2.2.2.2.2]),.row nm.2.1 a.length 411 5,.map nm.2.2.1 (zb (D.int .i64) (D.int .i64) s2),.vec nm.2.2.2.1 (b.map (D.int .i64)) 3 1,.map nm.2.2.2.2.1 (zb (D.int .i64) (D.int .i64) j),.map nm.2.2.2.2.2.1 (zb (D.int .i64) (D.int .i64) l),.map nm.2.2.2.2.2.2 (zb (D.int .i64) qA f)],fun res d σ=>∃(c:Value)(e:Value),d= .tup []∧σ=[.cell nm.1 (.agg [.own c (res.1.map qF),.map nm.2.2.1,.vec e res.2.1.length,.map nm.2.2.2.2.1,.map nm.2.2.2.2.2.1,.map nm.2.2.2.2.2.2]),.row c res.1.length 411 5,.map nm.2.2.1 (zb (D.int .i64) (D.int .i64) s2),.vec e (res.2.1.map (D.int .i64)) 3 1,.map nm.2.2.2.2.1 (zb (D.int .i64) (D.int .i64) res.2.2.1),.map nm.2.2.2.2.2.1 (zb (D.int .i64) (D.int .i64) res.2.2.2),.map nm.2.2.2.2.2.2 (zb (D.int .i64) qA f)]⟩):=⟨fun nm=>qif g h a b s2 j l f nm.1 nm.2.1 nm.2.2.1 nm.2.2.2.1 nm.2.2.2.2.1 nm.2.2.2.2.2.1 nm.2.2.2.2.2.2⟩
instance:EF prog 366 (Int×Int) zbN 2:=⟨fun _=>rfl,fun _=>rfl⟩
def qbo(fuel:Nat)(F:List (Int×Int))(l:List qt)(m:List Int)(s2:List (Int×Int))(G:List (Int×Int))(H:List (Int×Int))(j:List (Int×qk)):Option (Bool×(List qt)×(List Int)×(List (Int×Int))×(List (Int×Int))×(List (Int×Int))×(List (Int×qk))):=forF (β:=(List (Int×Int))×(List qt)×(List Int)×(List (Int×Int))×(List (Int×Int))) (fun(q,C,E,b,c) d=>bif(decide ((q.length:Int)>(0:Int)))then ((getI q (wr ((q.length:Int)-(1:Int)))).bind fun n=>(qR fuel n.1 C E s2 b c j).bind fun o=>(qR fuel n.2 o.2.1 o.2.2 s2 b c j).bind fun r=>some (n,o,r)).bind fun a=>(subO q 0 (wr ((q.length:Int)-(1:Int)))).bind fun e=>bif(a.2.1.1==a.2.2.1)then d (e,a.2.2.2.1,a.2.2.2.2,b,c) else bif((zk b a.2.1.1).isSome)then bif((zk b a.2.2.1).isSome)then (qa8 ((zk b a.2.1.1).getD 0) ((zk b a.2.2.1).getD 0) a.2.2.2.1 a.2.2.2.2 s2 b c j).bind fun t=>bif(!t)then some (false,a.2.2.2.1,a.2.2.2.2,s2,b,c,j)else (getI a.2.2.2.1 ((zk b a.2.1.1).getD 0)).bind fun u=>forL (β:=(List (Int×Int))) (fun i27 v p w=>(getI a.2.2.2.1 ((zk b a.2.2.1).getD 0)).bind fun x=>(getI x.f1_args (i27:Int)).bind fun z=>(vecO [(v,z)]).bind fun A=>(appO 16 p A).bind fun B=>w B) (fun p=>(q9 a.2.1.1 a.2.2.1 a.2.2.2.1 a.2.2.2.2 s2 b c j).bind fun f=>d (p,f.1,f.2.1,f.2.2.1,f.2.2.2)) 0 u.f1_args e    else (q9 a.2.1.1 a.2.2.1 a.2.2.2.1 a.2.2.2.2 s2 b c j).bind fun g=>d (e,g.1,g.2.1,g.2.2.1,g.2.2.2)   else (q9 a.2.1.1 a.2.2.1 a.2.2.2.1 a.2.2.2.2 s2 b c j).bind fun h=>d (e,h.1,h.2.1,h.2.2.1,h.2.2.2)      else some (true,C,E,s2,b,c,j)) fuel (F,l,m,G,H)
def qi4(a:Nat)(h:Value)(f:Nat)(j:Value)(b:Nat)(c:Nat)(g:Nat)(l:Value):Tb:={pl:=[(3,⟨(Int×Int)×(Int×(List qt)×(List Int))×(Int×(List qt)×(List Int)),Value×Value,[0,1,5],fun e w=>[.ref a 0 [],.own (oS w [0]) [],.vec (oS w [2]) 0],[(0,0),(1,0),(2,0),(7,0),(8,0),(9,0)],(.cons 3 [(4,.d)] (.cons 5 [] (.cons 6 [] (.cons 10 [(11,.d)] (.cons 12 [] (.cons 13 [(14,.d),(15,.d)] .nil .nil) .nil) .nil) (.cons 10 [(11,.d)] (.cons 6 [] (.cons 12 [] (.cons 13 [(14,.d),(15,.d)] .nil .nil) .nil) (.cons 12 [] (.cons 6 [] (.cons 13 [(14,.d),(15,.d)] .nil .nil) .nil) .nil)) .nil)) (.cons 10 [(11,.d)] (.cons 5 [] (.cons 6 [] (.cons 12 [] (.cons 13 [(14,.d),(15,.d)] .nil .nil) .nil) (.cons 12 [] (.cons 6 [] (.cons 13 [(14,.d),(15,.d)] .nil .nil) .nil) .nil)) (.cons 12 [] (.cons 5 [] (.cons 6 [] (.cons 13 [(14,.d),(15,.d)] .nil .nil) .nil) .nil) .nil)) .nil)) (.cons 10 [(11,.d)] (.cons 3 [(4,.d)] (.cons 5 [] (.cons 6 [] (.cons 12 [] (.cons 13 [(14,.d),(15,.d)] .nil .nil) .nil) (.cons 12 [] (.cons 6 [] (.cons 13 [(14,.d),(15,.d)] .nil .nil) .nil) .nil)) (.cons 12 [] (.cons 5 [] (.cons 6 [] (.cons 13 [(14,.d),(15,.d)] .nil .nil) .nil) .nil) .nil)) (.cons 12 [] (.cons 3 [(4,.d)] (.cons 5 [] (.cons 6 [] (.cons 13 [(14,.d),(15,.d)] .nil .nil) .nil) .nil) .nil) .nil)) .nil)),fun r nm e w=>([(6,.int .i64 r.2.1.1),(7,.int .i64 r.2.2.1)],[.cell a (.agg [.own nm.1 (r.2.2.2.1.map qF),.map f,.vec nm.2 r.2.2.2.2.length,.map b,.map c,.map g]),.row nm.1 r.2.2.2.1.length 411 5,.vec nm.2 (r.2.2.2.2.map (D.int .i64)) 3 1])⟩)],ls:=[(0,⟨(List (Int×Int))×(List qt)×(List Int)×(List (Int×Int))×(List (Int×Int)),[0],[0,1],fun s e w=>([(1,.vec (oU e 1) s.1.length)],[.cell a (.agg [.own (oS w [0]) (s.2.1.map qF),.map f,.vec (oS w [2]) s.2.2.1.length,.map b,.map c,.map g]),.row (oS w [0]) s.2.1.length 411 5,.vec (oS w [2]) (s.2.2.1.map (D.int .i64)) 3 1,.map b (zb (D.int .i64) (D.int .i64) s.2.2.2.1),.map c (zb (D.int .i64) (D.int .i64) s.2.2.2.2),.vec (oU e 1) (s.1.map zbN) 366 2]),[]⟩),(2,⟨Nat×(List (Int×Int)),[0,6,7,10,74,75],[1],fun s e w=>([(1,.vec (oU e 1) s.2.length),(76,.int .i64 (s.1:Int))],[.vec (oU e 1) (s.2.map zbN) 366 2]),[75]⟩)]}
theorem qi1(fuel:Nat)(p:List (Int×Int))(f:List qt)(g:List Int)(s2:List (Int×Int))(q:List (Int×Int))(r:List (Int×Int))(t:List (Int×qk))(h:Nat)(j:Value)(a:Nat)(l:Value)(b:Nat)(c:Nat)(e:Nat)(m:Value)(res:Bool×(List qt)×(List Int)×(List (Int×Int))×(List (Int×Int))×(List (Int×Int))×(List (Int×qk)))(hr:qbo fuel p f g s2 q r t=some res):Spec prog 333 [.ref h 0 [],.vec m p.length] [.cell h (.agg [.own j (f.map qF),.map a,.vec l g.length,.map b,.map c,.map e]),.row j f.length 411 5,.map a (zb (D.int .i64) (D.int .i64) s2),.vec l (g.map (D.int .i64)) 3 1,.map b (zb (D.int .i64) (D.int .i64) q),.map c (zb (D.int .i64) (D.int .i64) r),.map e (zb (D.int .i64) qA t),.vec m (p.map zbN) 366 2] (fun d σ=>∃(n:Value)(o:Value),d= .bool res.1∧σ=[.cell h (.agg [.own n (res.2.1.map qF),.map a,.vec o res.2.2.1.length,.map b,.map c,.map e]),.row n res.2.1.length 411 5,.map a (zb (D.int .i64) (D.int .i64) res.2.2.2.1),.vec o (res.2.2.1.map (D.int .i64)) 3 1,.map b (zb (D.int .i64) (D.int .i64) res.2.2.2.2.1),.map c (zb (D.int .i64) (D.int .i64) res.2.2.2.2.2.1),.map e (zb (D.int .i64) qA res.2.2.2.2.2.2)]):=by
 unfold qbo at hr;refine qdR (qi4 h j a l b c e m) func333 rfl fun K hK hF=>?_;exact wk9
instance(fuel:Nat)(f:List (Int×Int))(a:List qt)(b:List Int)(s2:List (Int×Int))(g:List (Int×Int))(h:List (Int×Int))(j:List (Int×qk)):Co prog 333 (qbo fuel f a b s2 g h j) (fun(nm:Nat×Value×Nat×Value×Nat×Nat×Nat×Value)=>⟨[.ref nm.1 0 [],.vec nm.2.2.2.2.2.2.2 f.length],[.cell nm.1 (.agg [.own nm.2.1 (a.map qF),.map nm.2.2.1,.vec nm.2.2.2.1 b.length,.map nm.2.2.2.2.1,.map nm.2.2.2.2.2.1,.map nm.2.2.2.2.2.2.1]),.row nm.2.1 a.length 411 5,.map nm.2.2.1 (zb (D.int .i64) (D.int .i64) s2),.vec nm.2.2.2.1 (b.map (D.int .i64)) 3 1,.map nm.2.2.2.2.1 (zb (D.int .i64) (D.int .i64) g),.map nm.2.2.2.2.2.1 (zb (D.int .i64) (D.int .i64) h),.map nm.2.2.2.2.2.2.1 (zb (D.int .i64) qA j),.vec nm.2.2.2.2.2.2.2 (f.map zbN) 366 2],fun res d σ=>∃(c:Value)(e:Value),d= .bool res.1∧σ=[.cell nm.1 (.agg [.own c (res.2.1.map qF),.map nm.2.2.1,.vec e res.2.2.1.length,.map nm.2.2.2.2.1,.map nm.2.2.2.2.2.1,.map nm.2.2.2.2.2.2.1]),.row c res.2.1.length 411 5,.map nm.2.2.1 (zb (D.int .i64) (D.int .i64) res.2.2.2.1),.vec e (res.2.2.1.map (D.int .i64)) 3 1,.map nm.2.2.2.2.1 (zb (D.int .i64) (D.int .i64) res.2.2.2.2.1),.map nm.2.2.2.2.2.1 (zb (D.int .i64) (D.int .i64) res.2.2.2.2.2.1),.map nm.2.2.2.2.2.2.1 (zb (D.int .i64) qA res.2.2.2.2.2.2)]⟩):=⟨fun nm=>qi1 fuel f a b s2 g h j nm.1 nm.2.1 nm.2.2.1 nm.2.2.2.1 nm.2.2.2.2.1 nm.2.2.2.2.2.1 nm.2.2.2.2.2.2.1 nm.2.2.2.2.2.2.2⟩
instance:MpI prog 314 Int Bool (D.int .i64) D.bool false:=⟨_,_,_,_,underlying314,(zaA underlying3),qwn⟩
instance:DlI prog 314 3 .i64:=⟨_,underlying314,underlying3⟩
def qax:Nat→Int→List qt→List Int→(List (Int×Int))→(List (Int×Int))→(List (Int×Int))→(List (Int×qk))→(List (Int×Bool))→Option (qk×Bool×(List qt)×(List Int)×(List (Int×Int))×(List (Int×Int))×(List (Int×Int))×(List (Int×qk))×(List (Int×Bool))) |0,_,_,_,_,_,_,_,_=>none |fuel+1,d,b,c,s2,p,r,q,t=>(fun(rec:Int→List qt→List Int→(List (Int×Int))→(List (Int×Int))→(List (Int×Int))→(List (Int×qk))→(List (Int×Bool))→Option (qk×Bool×(List qt)×(List Int)×(List (Int×Int))×(List (Int×Int))×(List (Int×Int))×(List (Int×qk))×(List (Int×Bool))))=>bif((zk q d).isSome)then some (((zk q d).getD (⟨0,0⟩:qk)),true,b,c,s2,p,r,q,t)else bif((zk t d).getD false)then some ((⟨0,0⟩:qk),false,b,c,s2,p,r,q,t)else (mputO t d true).bind fun z=>bif((zk p d).isSome)then (getI b ((zk p d).getD 0)).bind fun A=>forL (β:=(List qt)×(List Int)×(List (Int×Int))×(List (Int×Int))×(List (Int×Int))×(List (Int×qk))×(List (Int×Bool))×qk) (fun _ u(l,m,f,g,h,j,n,e) v=>(qR fuel u l m f g h j).bind fun o=>(rec o.1 o.2.1 o.2.2 f g h j n).bind fun a=>bif(!a.2.1)then some ((⟨0,0⟩:qk),false,a.2.2.1,a.2.2.2.1,a.2.2.2.2.1,a.2.2.2.2.2.1,a.2.2.2.2.2.2.1,a.2.2.2.2.2.2.2.1,(zbQ a.2.2.2.2.2.2.2.2 d))else v (a.2.2.1,a.2.2.2.1,a.2.2.2.2.1,a.2.2.2.2.2.1,a.2.2.2.2.2.2.1,a.2.2.2.2.2.2.2.1,a.2.2.2.2.2.2.2.2,(⟨(zav (wr (e.f0_size+a.1.f0_size)) (201:Int)),(zav (zap e.f1_depth (wr (a.1.f1_depth+(1:Int)))) (21:Int))⟩:qk))) (fun(l,m,f,g,h,j,n,e)=>(mputO j d e).bind fun w=>some (e,true,l,m,f,g,h,w,(zbQ n d))) 0 A.f1_args (b,c,s2,p,r,q,z,(⟨1,1⟩:qk))  else (mputO q d (⟨1,1⟩:qk)).bind fun x=>some ((⟨1,1⟩:qk),true,b,c,s2,p,r,x,(zbQ z d))) (qax fuel)
def qgM(f:Nat)(h:Value)(a:Nat)(j:Value)(b:Nat)(c:Nat)(d:Nat)(g:Nat):Tb:={fz:=[(1,[8]),(14,[15])],rg:=[(20,[(0,0),(1,0),(2,0),(3,2),(4,0),(5,2),(6,1)])],ls:=[(0,⟨Nat×((List qt)×(List Int)×(List (Int×Int))×(List (Int×Int))×(List (Int×Int))×(List (Int×qk))×(List (Int×Bool))×qk),[0,1,2,6,10,54,55],[0,2,10],fun s e w=>([(56,.int .i64 (s.1:Int))],[.cell f (.agg [.own (oS w [0]) (s.2.1.map qF),.map a,.vec (oS w [2]) s.2.2.1.length,.map b,.map c,.map d]),.row (oS w [0]) s.2.1.length 411 5,.map a (zb (D.int .i64) (D.int .i64) s.2.2.2.1),.vec (oS w [2]) (s.2.2.1.map (D.int .i64)) 3 1,.map b (zb (D.int .i64) (D.int .i64) s.2.2.2.2.1),.map c (zb (D.int .i64) (D.int .i64) s.2.2.2.2.2.1),.map d (zb (D.int .i64) qA s.2.2.2.2.2.2.1),.map g (zb (D.int .i64) D.bool s.2.2.2.2.2.2.2.1),.cell (oB e 10) (qA s.2.2.2.2.2.2.2.2)]),[55]⟩)]}
instance kr_Punify_graph_measured_s1:∀(fuel:Nat)(f:Int)(a:List qt)(b:List Int)(s2:List (Int×Int))(g:List (Int×Int))(j:List (Int×Int))(l:List (Int×qk))(m:List (Int×Bool)),Co prog 366 (qax fuel f a b s2 g j l m) (fun(nm:Nat×Value×Nat×Value×Nat×Nat×Nat×Nat)=>⟨[.ref nm.1 0 [],.int .i64 f,.map nm.2.2.2.2.2.2.2],[.cell nm.1 (.agg [.own nm.2.1 (a.map qF),.map nm.2.2.1,.vec nm.2.2.2.1 b.length,.map nm.2.2.2.2.1,.map nm.2.2.2.2.2.1,.map nm.2.2.2.2.2.2.1]),.row nm.2.1 a.length 411 5,.map nm.2.2.1 (zb (D.int .i64) (D.int .i64) s2),.vec nm.2.2.2.1 (b.map (D.int .i64)) 3 1,.map nm.2.2.2.2.1 (zb (D.int .i64) (D.int .i64) g),.map nm.2.2.2.2.2.1 (zb (D.int .i64) (D.int .i64) j),.map nm.2.2.2.2.2.2.1 (zb (D.int .i64) qA l),.map nm.2.2.2.2.2.2.2 (zb (D.int .i64) D.bool m)],fun res d σ=>∃(c:Value)(e:Value),d= .tup [qA res.1,.bool res.2.1]∧σ=[.cell nm.1 (.agg [.own c (res.2.2.1.map qF),.map nm.2.2.1,.vec e res.2.2.2.1.length,.map nm.2.2.2.2.1,.map nm.2.2.2.2.2.1,.map nm.2.2.2.2.2.2.1]),.row c res.2.2.1.length 411 5,.map nm.2.2.1 (zb (D.int .i64) (D.int .i64) res.2.2.2.2.1),.vec e (res.2.2.2.1.map (D.int .i64)) 3 1,.map nm.2.2.2.2.1 (zb (D.int .i64) (D.int .i64) res.2.2.2.2.2.1),.map nm.2.2.2.2.2.1 (zb (D.int .i64) (D.int .i64) res.2.2.2.2.2.2.1),.map nm.2.2.2.2.2.2.1 (zb (D.int .i64) qA res.2.2.2.2.2.2.2.1),.map nm.2.2.2.2.2.2.2 (zb (D.int .i64) D.bool res.2.2.2.2.2.2.2.2)]⟩)
 |0,_,_,_,_,_,_,_,_=>⟨fun _ _ h=>by cases h⟩
 |fuel+1,_,_,_,_,_,_,_,_=>by
  have IHR:=kr_Punify_graph_measured_s1 fuel;exact kO (fun nm=>qgM nm.1 nm.2.1 nm.2.2.1 nm.2.2.2.1 nm.2.2.2.2.1 nm.2.2.2.2.2.1 nm.2.2.2.2.2.2.1 nm.2.2.2.2.2.2.2) func366 rfl (by unfold qax;exact wO8)
end
noncomputable section
def qad:Nat→Int→List qt→List Int→(List (Int×Int))→(List (Int×Int))→(List (Int×Int))→(List (Int×qk))→Option (T×(List qt)×(List Int)×(List (Int×Int))×(List (Int×Int))×(List (Int×Int))×(List (Int×qk))) |0,_,_,_,_,_,_,_=>none |fuel+1,q,a,b,s2,o,p,r=>(fun(rec:Int→List qt→List Int→(List (Int×Int))→(List (Int×Int))→(List (Int×Int))→(List (Int×qk))→Option (T×(List qt)×(List Int)×(List (Int×Int))×(List (Int×Int))×(List (Int×Int))×(List (Int×qk))))=>bif(!((zk o q).isSome))then (qc0 ((zk p q).getD 0)).bind fun w=>some (w,a,b,s2,o,p,r) else (getI a ((zk o q).getD 0)).bind fun d=>bif((d.f0_term.ar.length:Int)==(0:Int))then some ((T.mk d.f0_term.k d.f0_term.i d.f0_term.s d.f0_term.ar),a,b,s2,o,p,r)else (mkA 56 (d.f0_term.ar.length:Int) (T.mk 0 0 ⟨#[]⟩ [])).bind fun x=>forL (β:=(List qt)×(List Int)×(List (Int×Int))×(List (Int×Int))×(List (Int×Int))×(List (Int×qk))×(List T)) (fun i11 t(l,m,e,f,g,h,j) u=>(qR fuel t l m e f g h).bind fun n=>(rec n.1 n.2.1 n.2.2 e f g h).bind fun c=>(getI j (i11:Int)).bind fun z=>(zaP j (i11:Int) c.1).bind fun v=>u (c.2.1,c.2.2.1,c.2.2.2.1,c.2.2.2.2.1,c.2.2.2.2.2.1,c.2.2.2.2.2.2,v)) (fun(l,m,e,f,g,h,j)=>some ((T.mk d.f0_term.k d.f0_term.i d.f0_term.s j),l,m,e,f,g,h)) 0 d.f1_args (a,b,s2,o,p,r,x)) (qad fuel)
def qhs(f:Nat)(g:Value)(a:Nat)(h:Value)(b:Nat)(c:Nat)(d:Nat):Tb:={ot:=[7],fb:=[(0,[8])],ls:=[(0,⟨Nat×((List qt)×(List Int)×(List (Int×Int))×(List (Int×Int))×(List (Int×Int))×(List (Int×qk))×(List T)),[0,4,7,53,54],[0,8],fun s e w=>([(55,.int .i64 (s.1:Int)),(8,.arr (oB e 8) 4 0 s.2.2.2.2.2.2.2.length)],[.cell f (.agg [.own (oS w [0]) (s.2.1.map qF),.map a,.vec (oS w [2]) s.2.2.1.length,.map b,.map c,.map d]),.row (oS w [0]) s.2.1.length 411 5,.map a (zb (D.int .i64) (D.int .i64) s.2.2.2.1),.vec (oS w [2]) (s.2.2.1.map (D.int .i64)) 3 1,.map b (zb (D.int .i64) (D.int .i64) s.2.2.2.2.1),.map c (zb (D.int .i64) (D.int .i64) s.2.2.2.2.2.1),.map d (zb (D.int .i64) qA s.2.2.2.2.2.2.1),.arr (oB e 8) (s.2.2.2.2.2.2.2.map zg) 77 4]),[54]⟩)]}
instance kr_Punify_graph_expand_s1:∀(fuel:Nat)(f:Int)(a:List qt)(b:List Int)(s2:List (Int×Int))(g:List (Int×Int))(j:List (Int×Int))(l:List (Int×qk)),Co prog 369 (qad fuel f a b s2 g j l) (fun(nm:Nat×Value×Nat×Value×Nat×Nat×Nat)=>⟨[.ref nm.1 0 [],.int .i64 f],[.cell nm.1 (.agg [.own nm.2.1 (a.map qF),.map nm.2.2.1,.vec nm.2.2.2.1 b.length,.map nm.2.2.2.2.1,.map nm.2.2.2.2.2.1,.map nm.2.2.2.2.2.2]),.row nm.2.1 a.length 411 5,.map nm.2.2.1 (zb (D.int .i64) (D.int .i64) s2),.vec nm.2.2.2.1 (b.map (D.int .i64)) 3 1,.map nm.2.2.2.2.1 (zb (D.int .i64) (D.int .i64) g),.map nm.2.2.2.2.2.1 (zb (D.int .i64) (D.int .i64) j),.map nm.2.2.2.2.2.2 (zb (D.int .i64) qA l)],fun res d σ=>∃(c:Value)(e:Value),d=zg res.1∧σ=[.cell nm.1 (.agg [.own c (res.2.1.map qF),.map nm.2.2.1,.vec e res.2.2.1.length,.map nm.2.2.2.2.1,.map nm.2.2.2.2.2.1,.map nm.2.2.2.2.2.2]),.row c res.2.1.length 411 5,.map nm.2.2.1 (zb (D.int .i64) (D.int .i64) res.2.2.2.1),.vec e (res.2.2.1.map (D.int .i64)) 3 1,.map nm.2.2.2.2.1 (zb (D.int .i64) (D.int .i64) res.2.2.2.2.1),.map nm.2.2.2.2.2.1 (zb (D.int .i64) (D.int .i64) res.2.2.2.2.2.1),.map nm.2.2.2.2.2.2 (zb (D.int .i64) qA res.2.2.2.2.2.2)]⟩)
 |0,_,_,_,_,_,_,_=>⟨fun _ _ h=>by cases h⟩
 |fuel+1,_,_,_,_,_,_,_=>by
  have IHR:=kr_Punify_graph_expand_s1 fuel;exact kO (fun nm=>qhs nm.1 nm.2.1 nm.2.2.1 nm.2.2.2.1 nm.2.2.2.2.1 nm.2.2.2.2.2.1 nm.2.2.2.2.2.2) func369 rfl (by unfold qad;exact wO7)
def qaS(fuel:Nat)(j:List qt)(p:List Int)(s2:List (Int×Int))(G:List (Int×Int))(H:List (Int×Int))(I:List (Int×qk)):Option ((List (Int×T))×Int×(List qt)×(List Int)×(List (Int×Int))×(List (Int×Int))×(List (Int×Int))×(List (Int×qk))):=forL (β:=(List qt)×(List Int)×(List (Int×Int))×(List (Int×Int))×(List (Int×Int))×(List (Int×qk))×(List (Int×Bool))) (fun i5 _(z,A,v,x,m,n,w) B=>(qR fuel (i5:Int) z A v x m n).bind fun q=>(qax fuel q.1 q.2.1 q.2.2 v x m n w).bind fun b=>bif(!b.2.1)then some ([],13,b.2.2.1,b.2.2.2.1,b.2.2.2.2.1,b.2.2.2.2.2.1,b.2.2.2.2.2.2.1,b.2.2.2.2.2.2.2.1)else B (b.2.2.1,b.2.2.2.1,b.2.2.2.2.1,b.2.2.2.2.2.1,b.2.2.2.2.2.2.1,b.2.2.2.2.2.2.2.1,b.2.2.2.2.2.2.2.2)) (fun(z,A,v,x,m,n,w)=>(qlP.bind fun J=>(qga v).bind fun C=>forL (β:=(List (Int×T))×(List qt)×(List Int)×(List (Int×Int))×(List (Int×Int))×(List (Int×Int))×(List (Int×qk))) (fun _ o(l,r,t,d,e,f,c) u=>(qR fuel ((zk d o).getD 0) r t d e f c).bind fun a=>bif(!((zk e a.1).isSome))then bif(((zk f a.1).getD 0)==o)then u (l,a.2.1,a.2.2,d,e,f,c) else bif(decide ((((zk c a.1).getD (⟨0,0⟩:qk)).f0_size)>(200:Int)))then some ([],6,a.2.1,a.2.2,d,e,f,c)else bif(decide ((((zk c a.1).getD (⟨0,0⟩:qk)).f1_depth)>(20:Int)))then some ([],6,a.2.1,a.2.2,d,e,f,c)else (qad fuel a.1 a.2.1 a.2.2 d e f c).bind fun g=>(appO 64 l [(o,g.1)]).bind fun E=>u (E,g.2.1,g.2.2.1,g.2.2.2.1,g.2.2.2.2.1,g.2.2.2.2.2.1,g.2.2.2.2.2.2)      else bif(decide ((((zk c a.1).getD (⟨0,0⟩:qk)).f0_size)>(200:Int)))then some ([],6,a.2.1,a.2.2,d,e,f,c)else bif(decide ((((zk c a.1).getD (⟨0,0⟩:qk)).f1_depth)>(20:Int)))then some ([],6,a.2.1,a.2.2,d,e,f,c)else (qad fuel a.1 a.2.1 a.2.2 d e f c).bind fun h=>(appO 64 l [(o,h.1)]).bind fun F=>u (F,h.2.1,h.2.2.1,h.2.2.2.1,h.2.2.2.2.1,h.2.2.2.2.2.1,h.2.2.2.2.2.2)) (fun(l,r,t,d,e,f,c)=>some (l,0,r,t,d,e,f,c)) 0 C ([],z,A,v,x,m,n))) 0 j (j,p,s2,G,H,I,[])
def qhF(f:Nat)(g:Value)(a:Nat)(h:Value)(b:Nat)(c:Nat)(d:Nat):Tb:={ow:=[2,8],fz:=[(5,[6]),(16,[14])],ls:=[(0,⟨Nat×((List qt)×(List Int)×(List (Int×Int))×(List (Int×Int))×(List (Int×Int))×(List (Int×qk))×(List (Int×Bool))),[0,4,20],[0,4],fun s e w=>([(21,.int .i64 (s.1:Int))],[.cell f (.agg [.own (oS w [0]) (s.2.1.map qF),.map a,.vec (oS w [2]) s.2.2.1.length,.map b,.map c,.map d]),.row (oS w [0]) s.2.1.length 411 5,.map a (zb (D.int .i64) (D.int .i64) s.2.2.2.1),.vec (oS w [2]) (s.2.2.1.map (D.int .i64)) 3 1,.map b (zb (D.int .i64) (D.int .i64) s.2.2.2.2.1),.map c (zb (D.int .i64) (D.int .i64) s.2.2.2.2.2.1),.map d (zb (D.int .i64) qA s.2.2.2.2.2.2.1),.map (oB e 4) (zb (D.int .i64) D.bool s.2.2.2.2.2.2.2)]),[20]⟩),(2,⟨Nat×((List (Int×T))×(List qt)×(List Int)×(List (Int×Int))×(List (Int×Int))×(List (Int×Int))×(List (Int×qk))),[0,41,42],[0,8],fun s e w=>([(8,.own (oU e 8) (s.2.1.map zw)),(43,.int .i64 (s.1:Int))],[.cell f (.agg [.own (oS w [0]) (s.2.2.1.map qF),.map a,.vec (oS w [2]) s.2.2.2.1.length,.map b,.map c,.map d]),.row (oS w [0]) s.2.2.1.length 411 5,.map a (zb (D.int .i64) (D.int .i64) s.2.2.2.2.1),.vec (oS w [2]) (s.2.2.2.1.map (D.int .i64)) 3 1,.map b (zb (D.int .i64) (D.int .i64) s.2.2.2.2.2.1),.map c (zb (D.int .i64) (D.int .i64) s.2.2.2.2.2.2.1),.map d (zb (D.int .i64) qA s.2.2.2.2.2.2.2),.row (oU e 8) s.2.1.length 102 5]),[42]⟩)]}
theorem qhA(fuel:Nat)(f:List qt)(g:List Int)(s2:List (Int×Int))(o:List (Int×Int))(p:List (Int×Int))(q:List (Int×qk))(h:Nat)(j:Value)(a:Nat)(l:Value)(b:Nat)(c:Nat)(e:Nat)(res:(List (Int×T))×Int×(List qt)×(List Int)×(List (Int×Int))×(List (Int×Int))×(List (Int×Int))×(List (Int×qk)))(hr:qaS fuel f g s2 o p q=some res):Spec prog 335 [.ref h 0 []] [.cell h (.agg [.own j (f.map qF),.map a,.vec l g.length,.map b,.map c,.map e]),.row j f.length 411 5,.map a (zb (D.int .i64) (D.int .i64) s2),.vec l (g.map (D.int .i64)) 3 1,.map b (zb (D.int .i64) (D.int .i64) o),.map c (zb (D.int .i64) (D.int .i64) p),.map e (zb (D.int .i64) qA q)] (fun d σ=>∃(m:Value)(n:Value),d= .tup [.lst (res.1.map zw),.int .i64 res.2.1]∧σ=[.cell h (.agg [.own m (res.2.2.1.map qF),.map a,.vec n res.2.2.2.1.length,.map b,.map c,.map e]),.row m res.2.2.1.length 411 5,.map a (zb (D.int .i64) (D.int .i64) res.2.2.2.2.1),.vec n (res.2.2.2.1.map (D.int .i64)) 3 1,.map b (zb (D.int .i64) (D.int .i64) res.2.2.2.2.2.1),.map c (zb (D.int .i64) (D.int .i64) res.2.2.2.2.2.2.1),.map e (zb (D.int .i64) qA res.2.2.2.2.2.2.2)]):=by
 unfold qaS at hr;refine qdR (qhF h j a l b c e) func335 rfl fun K hK hF=>?_;exact wk9
instance(fuel:Nat)(a:List qt)(b:List Int)(s2:List (Int×Int))(f:List (Int×Int))(g:List (Int×Int))(h:List (Int×qk)):Co prog 335 (qaS fuel a b s2 f g h) (fun(nm:Nat×Value×Nat×Value×Nat×Nat×Nat)=>⟨[.ref nm.1 0 []],[.cell nm.1 (.agg [.own nm.2.1 (a.map qF),.map nm.2.2.1,.vec nm.2.2.2.1 b.length,.map nm.2.2.2.2.1,.map nm.2.2.2.2.2.1,.map nm.2.2.2.2.2.2]),.row nm.2.1 a.length 411 5,.map nm.2.2.1 (zb (D.int .i64) (D.int .i64) s2),.vec nm.2.2.2.1 (b.map (D.int .i64)) 3 1,.map nm.2.2.2.2.1 (zb (D.int .i64) (D.int .i64) f),.map nm.2.2.2.2.2.1 (zb (D.int .i64) (D.int .i64) g),.map nm.2.2.2.2.2.2 (zb (D.int .i64) qA h)],fun res d σ=>∃(c:Value)(e:Value),d= .tup [.lst (res.1.map zw),.int .i64 res.2.1]∧σ=[.cell nm.1 (.agg [.own c (res.2.2.1.map qF),.map nm.2.2.1,.vec e res.2.2.2.1.length,.map nm.2.2.2.2.1,.map nm.2.2.2.2.2.1,.map nm.2.2.2.2.2.2]),.row c res.2.2.1.length 411 5,.map nm.2.2.1 (zb (D.int .i64) (D.int .i64) res.2.2.2.2.1),.vec e (res.2.2.2.1.map (D.int .i64)) 3 1,.map nm.2.2.2.2.1 (zb (D.int .i64) (D.int .i64) res.2.2.2.2.2.1),.map nm.2.2.2.2.2.1 (zb (D.int .i64) (D.int .i64) res.2.2.2.2.2.2.1),.map nm.2.2.2.2.2.2 (zb (D.int .i64) qA res.2.2.2.2.2.2.2)]⟩):=⟨fun nm=>qhA fuel a b s2 f g h nm.1 nm.2.1 nm.2.2.1 nm.2.2.2.1 nm.2.2.2.2.1 nm.2.2.2.2.2.1 nm.2.2.2.2.2.2⟩
def qfw(fuel:Nat)(a0:List T)(n:List T):Option ((List (Int×T))×Int):=(qeD a0).bind fun t=>bif(!t)then some ([],2)else (qeD n).bind fun u=>bif(!u)then some ([],2)else bif((a0.length:Int) !=(n.length:Int))then some ([],9)else(qeY.bind fun l=>forL (β:=(List qt)×(List Int)×(List (Int×Int))×(List (Int×Int))×(List (Int×Int))×(List (Int×qk))) (fun i16 o(a,b,f,g,h,j) p=>(getI n (i16:Int)).bind fun q=>(qaY fuel o a b f g h j).bind fun c=>(qaY fuel q c.2.1 c.2.2.1 c.2.2.2.1 c.2.2.2.2.1 c.2.2.2.2.2.1 c.2.2.2.2.2.2).bind fun d=>(vecO [(c.1,d.1)]).bind fun r=>(qbo fuel r d.2.1 d.2.2.1 d.2.2.2.1 d.2.2.2.2.1 d.2.2.2.2.2.1 d.2.2.2.2.2.2).bind fun e=>bif(!e.1)then some ([],13)else p (e.2.1,e.2.2.1,e.2.2.2.1,e.2.2.2.2.1,e.2.2.2.2.2.1,e.2.2.2.2.2.2)) (fun(a,b,f,g,h,j)=>(qaS fuel a b f g h j).bind fun m=>some (m.1,m.2.1)) 0 a0 (l.1,l.2.1,l.2.2.1,l.2.2.2.1,l.2.2.2.2.1,l.2.2.2.2.2))
def qru:Tb:={vw:=[43],ow:=[43],rg:=[(9,[(0,0),(1,0),(2,0),(3,0),(4,0),(5,0),(7,0),(8,0),(9,0),(10,0),(11,0),(6,1),(12,1),(13,0),(14,1),(15,1),(16,0)])],ls:=[(1,⟨Nat×((List qt)×(List Int)×(List (Int×Int))×(List (Int×Int))×(List (Int×Int))×(List (Int×qk))),[0,1,6,25],[6],fun s e w=>([(26,.int .i64 (s.1:Int))],[.cell (oB e 6) (.agg [.own (oS w [0]) (s.2.1.map qF),.map (oM w [1]),.vec (oS w [2]) s.2.2.1.length,.map (oM w [3]),.map (oM w [4]),.map (oM w [5])]),.row (oS w [0]) s.2.1.length 411 5,.map (oM w [1]) (zb (D.int .i64) (D.int .i64) s.2.2.2.1),.vec (oS w [2]) (s.2.2.1.map (D.int .i64)) 3 1,.map (oM w [3]) (zb (D.int .i64) (D.int .i64) s.2.2.2.2.1),.map (oM w [4]) (zb (D.int .i64) (D.int .i64) s.2.2.2.2.2.1),.map (oM w [5]) (zb (D.int .i64) qA s.2.2.2.2.2.2)]),[19]⟩)]}
instance(fuel:Nat)(a0:List T)(a:List T):Cb prog 311 (qfw fuel a0 a) [.lst (a0.map zg),.lst (a.map zg)] (fun res=>.tup [.lst (res.1.map zw),.int .i64 res.2]):=kC qru func311 rfl (by unfold qfw;exact wS9)
def qf0(fuel:Nat)(a0:T)(b:T):Option ((List (Int×T))×Int):=(qfw fuel [a0] [b]).bind fun a=>some (a.1,a.2)
instance(fuel:Nat)(a0:T)(a:T):Cb prog 357 (qf0 fuel a0 a) [zg a0,zg a] (fun res=>.tup [.lst (res.1.map zw),.int .i64 res.2]):=kC {} func357 rfl (by unfold qf0;exact wS9)
def qbx(fuel:Nat)(a0:T)(b:T):Option Bool:=(qf0 fuel a0 b).bind fun a=>bif(a.2==(0:Int))then some true else some ((a.2==(6:Int)))
instance(fuel:Nat)(a0:T)(a:T):Cb prog 327 (qbx fuel a0 a) [zg a0,zg a] (fun res=>.bool res):=kC {} func327 rfl (by unfold qbx;exact wS9)
def qej:Nat→T→Option Bool |0,_=>none |fuel+1,a0=>(fun(rec:T→Option Bool)=>bif(a0.k==(0:Int))then some true else bif(a0.k==(1:Int))then some true else bif(a0.k==(2:Int))then (qwp a0.s).bind fun c=>bif c then bif((a0.ar.length:Int)==(2:Int))then (getI a0.ar 0).bind fun d=>(rec d).bind fun e=>bif e then (getI a0.ar 1).bind fun a=>(rec a).bind fun b=>some b  else some false   else some false else some false  else some false) (qej fuel)
instance kr_ask_number:∀(fuel:Nat)(a0:T),Cb prog 385 (qej fuel a0) [zg a0] (fun res=>.bool res)
 |0,_=>⟨fun _ h=>by cases h⟩
 |fuel+1,_=>by
  have IHR:=kr_ask_number fuel;exact kC {} func385 rfl (by unfold qej;exact wS9)
def qfy(fuel:Nat)(a0:T)(b:T):Option (Int×Int×Int):=(qej fuel a0).bind fun f=>bif(!f)then some (0,0,2)else (qej fuel b).bind fun g=>bif(!g)then some (0,0,2)else (qjD a0).bind fun h=>bif(!h)then some (0,0,0)else (qjD b).bind fun j=>bif(!j)then some (0,0,0)else (qjW a0).bind fun c=>(qjW b).bind fun a=>bif(c.2==(0:Int))then (qV (a.2==(0:Int))).bind fun d=>some (c.1,a.1,d) else (qV false).bind fun e=>some (c.1,a.1,e)
instance(fuel:Nat)(a0:T)(a:T):Cb prog 358 (qfy fuel a0 a) [zg a0,zg a] (fun res=>.tup [.int .i64 res.1,.int .i64 res.2.1,.int .i64 res.2.2]):=kC {} func358 rfl (by unfold qfy;exact wS9)
def qeS(fuel:Nat)(a0:Int)(b:T)(c:T):Option Int:=(qfy fuel b c).bind fun a=>bif(a.2.2 !=(1:Int))then some a.2.2 else bif(a0==(7:Int))then (qV (decide (a.1<a.2.1))).bind fun d=>some d else bif(a0==(8:Int))then (qV (decide (a.1≤a.2.1))).bind fun e=>some e else bif(a0==(9:Int))then (qV (a.1==a.2.1)).bind fun f=>some f else (qV (a.1 !=a.2.1)).bind fun g=>some g
instance(fuel:Nat)(a0:Int)(a:T)(b:T):Cb prog 328 (qeS fuel a0 a b) [.int .i64 a0,zg a,zg b] (fun res=>.int .i64 res):=kC {} func328 rfl (by unfold qeS;exact wS9)
def qfr(fuel:Nat)(a0:Gl):Option Int:=(qfV a0).bind fun r=>bif(!r)then bif(a0.op==(1:Int))then (qef a0).bind fun t=>(qV t).bind fun u=>some u  else (qV false).bind fun v=>some v  else (getI a0.ts 0).bind fun a=>bif(a0.op==(11:Int))then bif(a.k==(1:Int))then some (0)else (qV (a.k==(0:Int))).bind fun d=>some d  else bif(a0.op==(12:Int))then (qjD a).bind fun e=>bif e then some (1)else some (0)  else bif(a0.op==(5:Int))then (getI a0.ts 1).bind fun b=>(qgQ a b).bind fun f=>bif f then (qV (a0.op==(5:Int))).bind fun g=>some g else (qbx fuel a b).bind fun h=>bif(!h)then (qV (!(a0.op==(5:Int)))).bind fun j=>some j else some (0)     else bif(a0.op==(6:Int))then (getI a0.ts 1).bind fun c=>(qgQ a c).bind fun l=>bif l then (qV (a0.op==(5:Int))).bind fun m=>some m else (qbx fuel a c).bind fun n=>bif(!n)then (qV (!(a0.op==(5:Int)))).bind fun o=>some o else some (0)     else (getI a0.ts 1).bind fun p=>(qeS fuel a0.op a p).bind fun q=>some q
def qs5:Tb:={fz:=[(3,[3])]}
instance(fuel:Nat)(a0:Gl):Cb prog 306 (qfr fuel a0) [zG a0] (fun res=>.int .i64 res):=kC qs5 func306 rfl (by unfold qfr;exact wS9)
def qjx(fuel:Nat)(a0:List (Int×T))(e:List Gl)(f:Gl):Option Int:=(qb6 fuel a0 f).bind fun a=>(qfV a).bind fun g=>bif g then forL (β:=Unit) (fun _ h _ b=>(qb6 fuel a0 h).bind fun j=>(qiP j a).bind fun c=>bif c then some (1)else b ()) (fun _=>(qfr fuel a).bind fun l=>some l) 0 e () else (qfr fuel a).bind fun d=>some d
def qvT:Tb:={rf:=[5],fz:=[(5,[8])],rg:=[(6,[(0,0),(1,0),(2,0),(3,2),(4,0)])],ls:=[(0,⟨Nat×Unit,[0,5,14,15],[],fun s e w=>([(16,.int .i64 (s.1:Int))],[]),[15]⟩)]}
instance(fuel:Nat)(a0:List (Int×T))(a:List Gl)(b:Gl):Cb prog 282 (qjx fuel a0 a b) [.lst (a0.map zw),.lst (a.map zG),zG b] (fun res=>.int .i64 res):=kC qvT func282 rfl (by unfold qjx;exact wS9)
def qbh(fuel:Nat)(a0:Gl)(b:List (Int×T))(a:qe)(c:qD)(d:Int)(e:qs)(f:List At)(g:Int)(h:List qv):Option Bool:=(qbY fuel b a.fg a0).bind fun j=>(qjx fuel a.fo [] j).bind fun l=>some ((l==(1:Int)))
def qg1(a:Nat)(b:Value):Tb:={rg:=[(1,[(0,0),(1,0),(2,0),(3,0),(4,2),(5,0),(6,0),(7,0),(8,0),(9,0),(10,2),(11,0),(12,0),(13,0),(14,0),(15,0)])]}
theorem qgV(fuel:Nat)(a0:Gl)(l:List (Int×T))(b:qe)(c:qD)(e:Int)(f:qs)(g:List At)(h:Int)(a:List qv)(j:Nat)(m:Value)(res:Bool)(hr:qbh fuel a0 l b c e f g h a=some res):Spec prog 281 [zG a0,.ptr (.ref j 0 []),.ptr (.lst (l.map zw))] [.cell j (.agg [qh b,qE c,.int .i64 e,qo f,.lst (g.map zK),.int .i64 h,.own m (a.map qw)]),.row m a.length 91 2] (fun d σ=>∃(n:Value),d= .bool res∧σ=[.cell j (.agg [qh b,qE c,.int .i64 e,qo f,.lst (g.map zK),.int .i64 h,.own n (a.map qw)]),.row n a.length 91 2]):=by
 unfold qbh at hr;refine qdR (qg1 j m) func281 rfl fun K hK hF=>?_;exact wk9
instance(fuel:Nat)(a0:Gl)(j:List (Int×T))(b:qe)(c:qD)(e:Int)(f:qs)(g:List At)(h:Int)(a:List qv):Co prog 281 (qbh fuel a0 j b c e f g h a) (fun(nm:Nat×Value)=>⟨[zG a0,.ptr (.ref nm.1 0 []),.ptr (.lst (j.map zw))],[.cell nm.1 (.agg [qh b,qE c,.int .i64 e,qo f,.lst (g.map zK),.int .i64 h,.own nm.2 (a.map qw)]),.row nm.2 a.length 91 2],fun res d σ=>∃(l:Value),d= .bool res∧σ=[.cell nm.1 (.agg [qh b,qE c,.int .i64 e,qo f,.lst (g.map zK),.int .i64 h,.own l (a.map qw)]),.row l a.length 91 2]⟩):=⟨fun nm=>qgV fuel a0 j b c e f g h a nm.1 nm.2⟩
def qcF(fuel:Nat)(a0:Gl)(a:List (Int×T))(b:qe)(c:qD)(d:Int)(e:qs)(f:List At)(g:Int)(h:List qv):Option (Bool×qe×qD×Int×qs×(List At)×Int×(List qv)):=(qbh fuel a0 a b c d e f g h).bind fun j=>some ((!j),b,c,d,e,f,g,h)
theorem qjo(fuel:Nat)(a0:Gl)(a:List (Int×T))(c:qe)(e:qD)(f:Int)(g:qs)(h:List At)(j:Int)(b:List qv)(l:Nat)(n:Value)(res:Bool×qe×qD×Int×qs×(List At)×Int×(List qv))(hr:qcF fuel a0 a c e f g h j b=some res):Spec prog 259 [zG a0,.ptr (.clo (.func 281) [] [.ptr (.ref l 0 []),.ptr (.lst (a.map zw))])] [.cell l (.agg [qh c,qE e,.int .i64 f,qo g,.lst (h.map zK),.int .i64 j,.own n (b.map qw)]),.row n b.length 91 2] (fun d σ=>∃(m:Value),d= .bool res.1∧σ=[.cell l (.agg [qh res.2.1,qE res.2.2.1,.int .i64 res.2.2.2.1,qo res.2.2.2.2.1,.lst (res.2.2.2.2.2.1.map zK),.int .i64 res.2.2.2.2.2.2.1,.own m (res.2.2.2.2.2.2.2.map qw)]),.row m res.2.2.2.2.2.2.2.length 91 2]):=by
 unfold qcF at hr;refine qdR {} func259 rfl fun K hK hF=>?_;exact wk9
instance(fuel:Nat)(a0:Gl)(a:List (Int×T))(c:qe)(e:qD)(f:Int)(g:qs)(h:List At)(j:Int)(b:List qv):Co prog 259 (qcF fuel a0 a c e f g h j b) (fun(nm:Nat×Value)=>⟨[zG a0,.ptr (.clo (.func 281) [] [.ptr (.ref nm.1 0 []),.ptr (.lst (a.map zw))])],[.cell nm.1 (.agg [qh c,qE e,.int .i64 f,qo g,.lst (h.map zK),.int .i64 j,.own nm.2 (b.map qw)]),.row nm.2 b.length 91 2],fun res d σ=>∃(l:Value),d= .bool res.1∧σ=[.cell nm.1 (.agg [qh res.2.1,qE res.2.2.1,.int .i64 res.2.2.2.1,qo res.2.2.2.2.1,.lst (res.2.2.2.2.2.1.map zK),.int .i64 res.2.2.2.2.2.2.1,.own l (res.2.2.2.2.2.2.2.map qw)]),.row l res.2.2.2.2.2.2.2.length 91 2]⟩):=⟨fun nm=>qjo fuel a0 a c e f g h j b nm.1 nm.2⟩
def qb9(fuel:Nat)(a0:List Gl)(b:List (Int×T))(c:qe)(d:qD)(e:Int)(f:qs)(g:List At)(h:Int)(j:List qv):Option (Int×qe×qD×Int×qs×(List At)×Int×(List qv)):=forL (β:=qe×qD×Int×qs×(List At)×Int×(List qv)) (fun i2 l(m,n,o,p,q,r,t) u=>(qcF fuel l b m n o p q r t).bind fun a=>bif a.1 then some ((i2:Int),a.2.1,a.2.2.1,a.2.2.2.1,a.2.2.2.2.1,a.2.2.2.2.2.1,a.2.2.2.2.2.2.1,a.2.2.2.2.2.2.2)else u (a.2.1,a.2.2.1,a.2.2.2.1,a.2.2.2.2.1,a.2.2.2.2.2.1,a.2.2.2.2.2.2.1,a.2.2.2.2.2.2.2)) (fun(m,n,o,p,q,r,t)=>some ((-1),m,n,o,p,q,r,t)) 0 a0 (c,d,e,f,g,h,j)
def qi2(a:Nat)(b:Value):Tb:={ls:=[(0,⟨Nat×(qe×qD×Int×qs×(List At)×Int×(List qv)),[0,1,7],[],fun s e w=>([(8,.int .i64 (s.1:Int))],[.cell a (.agg [qh s.2.1,qE s.2.2.1,.int .i64 s.2.2.2.1,qo s.2.2.2.2.1,.lst (s.2.2.2.2.2.1.map zK),.int .i64 s.2.2.2.2.2.2.1,.own (oS w [6]) (s.2.2.2.2.2.2.2.map qw)]),.row (oS w [6]) s.2.2.2.2.2.2.2.length 91 2]),[7]⟩)]}
theorem qii(fuel:Nat)(a0:List Gl)(a:List (Int×T))(e:qe)(f:qD)(g:Int)(h:qs)(j:List At)(l:Int)(b:List qv)(c:Nat)(m:Value)(res:Int×qe×qD×Int×qs×(List At)×Int×(List qv))(hr:qb9 fuel a0 a e f g h j l b=some res):Spec prog 297 [.lst (a0.map zG),.clo (.func 259) [] [.ptr (.clo (.func 281) [] [.ptr (.ref c 0 []),.ptr (.lst (a.map zw))])]] [.cell c (.agg [qh e,qE f,.int .i64 g,qo h,.lst (j.map zK),.int .i64 l,.own m (b.map qw)]),.row m b.length 91 2] (fun d σ=>∃(n:Value),d= .int .i64 res.1∧σ=[.cell c (.agg [qh res.2.1,qE res.2.2.1,.int .i64 res.2.2.2.1,qo res.2.2.2.2.1,.lst (res.2.2.2.2.2.1.map zK),.int .i64 res.2.2.2.2.2.2.1,.own n (res.2.2.2.2.2.2.2.map qw)]),.row n res.2.2.2.2.2.2.2.length 91 2]):=by
 unfold qb9 at hr;refine qdR (qi2 c m) func297 rfl fun K hK hF=>?_;exact wk9
instance(fuel:Nat)(a0:List Gl)(a:List (Int×T))(c:qe)(e:qD)(f:Int)(g:qs)(h:List At)(j:Int)(b:List qv):Co prog 297 (qb9 fuel a0 a c e f g h j b) (fun(nm:Nat×Value)=>⟨[.lst (a0.map zG),.clo (.func 259) [] [.ptr (.clo (.func 281) [] [.ptr (.ref nm.1 0 []),.ptr (.lst (a.map zw))])]],[.cell nm.1 (.agg [qh c,qE e,.int .i64 f,qo g,.lst (h.map zK),.int .i64 j,.own nm.2 (b.map qw)]),.row nm.2 b.length 91 2],fun res d σ=>∃(l:Value),d= .int .i64 res.1∧σ=[.cell nm.1 (.agg [qh res.2.1,qE res.2.2.1,.int .i64 res.2.2.2.1,qo res.2.2.2.2.1,.lst (res.2.2.2.2.2.1.map zK),.int .i64 res.2.2.2.2.2.2.1,.own l (res.2.2.2.2.2.2.2.map qw)]),.row l res.2.2.2.2.2.2.2.length 91 2]⟩):=⟨fun nm=>qii fuel a0 a c e f g h j b nm.1 nm.2⟩
end
noncomputable section
def qbs(fuel:Nat)(a0:List Gl)(a:List (Int×T))(c:qe)(d:qD)(e:Int)(f:qs)(g:List At)(h:Int)(j:List qv):Option (Bool×qe×qD×Int×qs×(List At)×Int×(List qv)):=(qb9 fuel a0 a c d e f g h j).bind fun b=>some ((decide (b.1≥(0:Int))),b.2.1,b.2.2.1,b.2.2.2.1,b.2.2.2.2.1,b.2.2.2.2.2.1,b.2.2.2.2.2.2.1,b.2.2.2.2.2.2.2)
theorem qhb(fuel:Nat)(a0:List Gl)(a:List (Int×T))(c:qe)(e:qD)(f:Int)(g:qs)(h:List At)(j:Int)(b:List qv)(l:Nat)(n:Value)(res:Bool×qe×qD×Int×qs×(List At)×Int×(List qv))(hr:qbs fuel a0 a c e f g h j b=some res):Spec prog 258 [.lst (a0.map zG),.clo (.func 259) [] [.ptr (.clo (.func 281) [] [.ptr (.ref l 0 []),.ptr (.lst (a.map zw))])]] [.cell l (.agg [qh c,qE e,.int .i64 f,qo g,.lst (h.map zK),.int .i64 j,.own n (b.map qw)]),.row n b.length 91 2] (fun d σ=>∃(m:Value),d= .bool res.1∧σ=[.cell l (.agg [qh res.2.1,qE res.2.2.1,.int .i64 res.2.2.2.1,qo res.2.2.2.2.1,.lst (res.2.2.2.2.2.1.map zK),.int .i64 res.2.2.2.2.2.2.1,.own m (res.2.2.2.2.2.2.2.map qw)]),.row m res.2.2.2.2.2.2.2.length 91 2]):=by
 unfold qbs at hr;refine qdR {} func258 rfl fun K hK hF=>?_;exact wk9
instance(fuel:Nat)(a0:List Gl)(a:List (Int×T))(c:qe)(e:qD)(f:Int)(g:qs)(h:List At)(j:Int)(b:List qv):Co prog 258 (qbs fuel a0 a c e f g h j b) (fun(nm:Nat×Value)=>⟨[.lst (a0.map zG),.clo (.func 259) [] [.ptr (.clo (.func 281) [] [.ptr (.ref nm.1 0 []),.ptr (.lst (a.map zw))])]],[.cell nm.1 (.agg [qh c,qE e,.int .i64 f,qo g,.lst (h.map zK),.int .i64 j,.own nm.2 (b.map qw)]),.row nm.2 b.length 91 2],fun res d σ=>∃(l:Value),d= .bool res.1∧σ=[.cell nm.1 (.agg [qh res.2.1,qE res.2.2.1,.int .i64 res.2.2.2.1,qo res.2.2.2.2.1,.lst (res.2.2.2.2.2.1.map zK),.int .i64 res.2.2.2.2.2.2.1,.own l (res.2.2.2.2.2.2.2.map qw)]),.row l res.2.2.2.2.2.2.2.length 91 2]⟩):=⟨fun nm=>qhb fuel a0 a c e f g h j b nm.1 nm.2⟩
def qbR(fuel:Nat)(a0:List Gl)(a:List (Int×T))(c:qe)(d:qD)(e:Int)(f:qs)(g:List At)(h:Int)(j:List qv):Option (Bool×qe×qD×Int×qs×(List At)×Int×(List qv)):=(qbs fuel a0 a c d e f g h j).bind fun b=>some ((!b.1),b.2.1,b.2.2.1,b.2.2.2.1,b.2.2.2.2.1,b.2.2.2.2.2.1,b.2.2.2.2.2.2.1,b.2.2.2.2.2.2.2)
theorem qkf(fuel:Nat)(a0:List Gl)(a:List (Int×T))(c:qe)(e:qD)(f:Int)(g:qs)(h:List At)(j:Int)(b:List qv)(l:Nat)(n:Value)(res:Bool×qe×qD×Int×qs×(List At)×Int×(List qv))(hr:qbR fuel a0 a c e f g h j b=some res):Spec prog 199 [.lst (a0.map zG),.clo (.func 281) [] [.ptr (.ref l 0 []),.ptr (.lst (a.map zw))]] [.cell l (.agg [qh c,qE e,.int .i64 f,qo g,.lst (h.map zK),.int .i64 j,.own n (b.map qw)]),.row n b.length 91 2] (fun d σ=>∃(m:Value),d= .bool res.1∧σ=[.cell l (.agg [qh res.2.1,qE res.2.2.1,.int .i64 res.2.2.2.1,qo res.2.2.2.2.1,.lst (res.2.2.2.2.2.1.map zK),.int .i64 res.2.2.2.2.2.2.1,.own m (res.2.2.2.2.2.2.2.map qw)]),.row m res.2.2.2.2.2.2.2.length 91 2]):=by
 unfold qbR at hr;refine qdR {} func199 rfl fun K hK hF=>?_;exact wk9
instance(fuel:Nat)(a0:List Gl)(a:List (Int×T))(c:qe)(e:qD)(f:Int)(g:qs)(h:List At)(j:Int)(b:List qv):Co prog 199 (qbR fuel a0 a c e f g h j b) (fun(nm:Nat×Value)=>⟨[.lst (a0.map zG),.clo (.func 281) [] [.ptr (.ref nm.1 0 []),.ptr (.lst (a.map zw))]],[.cell nm.1 (.agg [qh c,qE e,.int .i64 f,qo g,.lst (h.map zK),.int .i64 j,.own nm.2 (b.map qw)]),.row nm.2 b.length 91 2],fun res d σ=>∃(l:Value),d= .bool res.1∧σ=[.cell nm.1 (.agg [qh res.2.1,qE res.2.2.1,.int .i64 res.2.2.2.1,qo res.2.2.2.2.1,.lst (res.2.2.2.2.2.1.map zK),.int .i64 res.2.2.2.2.2.2.1,.own l (res.2.2.2.2.2.2.2.map qw)]),.row l res.2.2.2.2.2.2.2.length 91 2]⟩):=⟨fun nm=>qkf fuel a0 a c e f g h j b nm.1 nm.2⟩
def qaT(fuel:Nat)(m:List Int)(l:List (Int×T))(b:qe)(c:qD)(d:Int)(a:qs)(e:List At)(f:Int)(g:List qv):Option (Bool×qe×qD×Int×qs×(List At)×Int×(List qv)):=(qaU a).bind fun n=>bif n then (qfi b.fC (⟨c.fp,m⟩:qu)).bind fun o=>bif o then some (false,b,c,d,a,e,f,g)else (qbR fuel a.fu l b c d a e f g).bind fun h=>some (h.1,h.2.1,h.2.2.1,h.2.2.2.1,h.2.2.2.2.1,h.2.2.2.2.2.1,h.2.2.2.2.2.2.1,h.2.2.2.2.2.2.2)   else (qbR fuel a.fu l b c d a e f g).bind fun j=>some (j.1,j.2.1,j.2.2.1,j.2.2.2.1,j.2.2.2.2.1,j.2.2.2.2.2.1,j.2.2.2.2.2.2.1,j.2.2.2.2.2.2.2)
def qhC(a:Nat)(b:Value):Tb:={rg:=[(1,[(0,0),(1,0),(2,0),(3,2),(4,0),(5,0),(6,0),(7,0),(8,0),(9,0),(10,2),(11,0),(12,0),(13,0),(14,0),(15,2),(16,0),(17,0),(18,0),(19,0)])]}
theorem qhv(fuel:Nat)(n:List Int)(o:List (Int×T))(c:qe)(e:qD)(f:Int)(g:qs)(h:List At)(j:Int)(a:List qv)(b:Nat)(l:Value)(res:Bool×qe×qD×Int×qs×(List At)×Int×(List qv))(hr:qaT fuel n o c e f g h j a=some res):Spec prog 247 [.ref b 0 [],.lst (n.map (D.int .i64)),.lst (o.map zw)] [.cell b (.agg [qh c,qE e,.int .i64 f,qo g,.lst (h.map zK),.int .i64 j,.own l (a.map qw)]),.row l a.length 91 2] (fun d σ=>∃(m:Value),d= .bool res.1∧σ=[.cell b (.agg [qh res.2.1,qE res.2.2.1,.int .i64 res.2.2.2.1,qo res.2.2.2.2.1,.lst (res.2.2.2.2.2.1.map zK),.int .i64 res.2.2.2.2.2.2.1,.own m (res.2.2.2.2.2.2.2.map qw)]),.row m res.2.2.2.2.2.2.2.length 91 2]):=by
 unfold qaT at hr;refine qdR (qhC b l) func247 rfl fun K hK hF=>?_;exact wk9
instance(fuel:Nat)(l:List Int)(m:List (Int×T))(b:qe)(c:qD)(e:Int)(f:qs)(g:List At)(h:Int)(a:List qv):Co prog 247 (qaT fuel l m b c e f g h a) (fun(nm:Nat×Value)=>⟨[.ref nm.1 0 [],.lst (l.map (D.int .i64)),.lst (m.map zw)],[.cell nm.1 (.agg [qh b,qE c,.int .i64 e,qo f,.lst (g.map zK),.int .i64 h,.own nm.2 (a.map qw)]),.row nm.2 a.length 91 2],fun res d σ=>∃(j:Value),d= .bool res.1∧σ=[.cell nm.1 (.agg [qh res.2.1,qE res.2.2.1,.int .i64 res.2.2.2.1,qo res.2.2.2.2.1,.lst (res.2.2.2.2.2.1.map zK),.int .i64 res.2.2.2.2.2.2.1,.own j (res.2.2.2.2.2.2.2.map qw)]),.row j res.2.2.2.2.2.2.2.length 91 2]⟩):=⟨fun nm=>qhv fuel l m b c e f g h a nm.1 nm.2⟩
theorem qiS(l res:(List Int))(hr:appO 8 [] l=some res):zf prog 248 [.lst (l.map (D.int .i64))] (.lst (res.map (D.int .i64))):=by
 obtain⟨h,rfl⟩:=qm2 hr;refine qdg {fr:=[2]} func248 rfl fun K hK hF=>?_;exact zbx
instance(l:List Int):Cb prog 248 (appO 8 [] l) [.lst (l.map (D.int .i64))] (fun res=>.lst (res.map (D.int .i64))):=⟨qiS l⟩
def qbS(c:qe)(d:qD)(e:Int)(f:qs)(g:List At)(a:Int)(b:List qv):Option Bool:=bif(decide (a>(0:Int)))then some ((decide ((b.length:Int)≥a)))else some false
def qhK(a:Nat)(b:Value):Tb:={rg:=[(1,[(0,0),(1,0),(2,0),(3,2),(4,0),(5,0),(6,0),(7,0),(8,0),(9,2),(10,0),(11,0),(12,0),(13,0),(14,2),(15,0),(16,0),(17,0)])]}
theorem qib(b:qe)(c:qD)(e:Int)(f:qs)(g:List At)(h:Int)(a:List qv)(j:Nat)(l:Value)(res:Bool)(hr:qbS b c e f g h a=some res):Spec prog 249 [.ref j 0 []] [.cell j (.agg [qh b,qE c,.int .i64 e,qo f,.lst (g.map zK),.int .i64 h,.own l (a.map qw)]),.row l a.length 91 2] (fun d σ=>∃(m:Value),d= .bool res∧σ=[.cell j (.agg [qh b,qE c,.int .i64 e,qo f,.lst (g.map zK),.int .i64 h,.own m (a.map qw)]),.row m a.length 91 2]):=by
 unfold qbS at hr;refine qdR (qhK j l) func249 rfl fun K hK hF=>?_;exact wk9
instance(b:qe)(c:qD)(e:Int)(f:qs)(g:List At)(h:Int)(a:List qv):Co prog 249 (qbS b c e f g h a) (fun(nm:Nat×Value)=>⟨[.ref nm.1 0 []],[.cell nm.1 (.agg [qh b,qE c,.int .i64 e,qo f,.lst (g.map zK),.int .i64 h,.own nm.2 (a.map qw)]),.row nm.2 a.length 91 2],fun res d σ=>∃(j:Value),d= .bool res∧σ=[.cell nm.1 (.agg [qh b,qE c,.int .i64 e,qo f,.lst (g.map zK),.int .i64 h,.own j (a.map qw)]),.row j a.length 91 2]⟩):=⟨fun nm=>qib b c e f g h a nm.1 nm.2⟩
theorem qfx(l res:(List (Int×T)))(hr:appO 64 [] l=some res):zf prog 284 [.lst (l.map zw)] (.lst (res.map zw)):=by
 obtain⟨h,rfl⟩:=qm2 hr;refine qdg {fr:=[2]} func284 rfl fun K hK hF=>?_;exact zbx
instance(l:List (Int×T)):Cb prog 284 (appO 64 [] l) [.lst (l.map zw)] (fun res=>.lst (res.map zw)):=⟨qfx l⟩
instance:EF prog 359 qy qC 8:=⟨qg6,fun _=>rfl⟩
def qeb(a0:List T)(c:List T):Option (List qy):=(zad 112 (a0.length:Int)).bind fun g=>forL (β:=(List qy)) (fun i6 d a b=>(getI c (i6:Int)).bind fun e=>(appO 112 a [(⟨d,e⟩:qy)]).bind fun f=>b f) (fun a=>some a) 0 a0 []
def qn8:Tb:={ow:=[4],rg:=[(5,[(0,0),(1,0),(2,0),(3,0),(4,0),(5,0),(6,0),(7,0),(8,0),(9,0),(10,0),(11,1),(12,0)])],ls:=[(0,⟨Nat×(List qy),[0,1,11],[5],fun s e w=>([(5,.own (oU e 5) (s.2.map qC)),(12,.int .i64 (s.1:Int))],[.row (oU e 5) s.2.length 359 8]),[8]⟩)]}
instance(a0:List T)(a:List T):Cb prog 285 (qeb a0 a) [.lst (a0.map zg),.lst (a.map zg)] (fun res=>.lst (res.map qC)):=kC qn8 func285 rfl (by unfold qeb;exact wS9)
def qfH(a0:List (Int×T))(a:qy):Option ((List (Int×T))×(List qy)×Bool):=bif(a.f0_pattern.k==(1:Int))then (qe8 a0 a.f0_pattern.i).bind fun d=>bif(decide (d≥(0:Int)))then (getI a0 d).bind fun e=>(qgQ e.2 a.f1_t).bind fun f=>some (a0,[],f)  else (qh5 a0 (a.f0_pattern.i,a.f1_t)).bind fun g=>some (g,[],true)   else bif(a.f0_pattern.k==(2:Int))then bif(a.f1_t.k !=(2:Int))then some ([],[],false)else bif(!(a.f1_t.s.toList==a.f0_pattern.s.toList))then some ([],[],false)else bif((a.f1_t.ar.length:Int) !=(a.f0_pattern.ar.length:Int))then some ([],[],false)else (qeb a.f0_pattern.ar a.f1_t.ar).bind fun b=>some (a0,b,true)    else (qgQ a.f0_pattern a.f1_t).bind fun c=>some (a0,[],c)
instance(a0:List (Int×T))(a:qy):Cb prog 307 (qfH a0 a) [.lst (a0.map zw),qC a] (fun res=>.tup [.lst (res.1.map zw),.lst (res.2.1.map qC),.bool res.2.2]):=kC {} func307 rfl (by unfold qfH;exact wS9)
def qf7(fuel:Nat)(a0:List (Int×T))(d:List qy):Option ((List (Int×T))×Bool):=forF (β:=(List (Int×T))×(List qy)) (fun(c,t2) a=>bif(decide ((t2.length:Int)>(0:Int)))then (getI t2 0).bind fun e=>(qfH c e).bind fun b=>bif(!b.2.2)then some ([],false)else (subO t2 1 (t2.length:Int)).bind fun f=>(qlG [b.2.1,f]).bind fun g=>a (b.1,g)      else some (c,true)) fuel (a0,d)
def qrc:Tb:={ls:=[(0,⟨(List (Int×T))×(List qy),[],[],fun s e w=>([(0,.lst (s.1.map zw)),(1,.lst (s.2.map qC))],[]),[]⟩)]}
instance(fuel:Nat)(a0:List (Int×T))(a:List qy):Cb prog 283 (qf7 fuel a0 a) [.lst (a0.map zw),.lst (a.map qC)] (fun res=>.tup [.lst (res.1.map zw),.bool res.2]):=kC qrc func283 rfl (by unfold qf7;exact wS9)
def qfC(fuel:Nat)(a0:List (Int×T))(a:At)(b:At):Option ((List (Int×T))×Bool):=bif(!(a.n.toList==b.n.toList))then some ([],false)else bif((a.ts.length:Int) !=(b.ts.length:Int))then some ([],false)else (appO 64 [] a0).bind fun d=>(qeb a.ts b.ts).bind fun e=>(qf7 fuel d e).bind fun c=>some (c.1,c.2)
def qqm:Tb:={rg:=[(3,[(0,0),(2,0),(3,0),(4,0),(5,0),(1,1),(6,0),(7,0),(8,0),(9,0),(10,0),(11,0)])]}
instance(fuel:Nat)(a0:List (Int×T))(a:At)(b:At):Cb prog 250 (qfC fuel a0 a b) [.lst (a0.map zw),zK a,zK b] (fun res=>.tup [.lst (res.1.map zw),.bool res.2]):=kC qqm func250 rfl (by unfold qfC;exact wS9)
instance:EF prog 91 qv qw 2:=⟨qkH,fun _=>rfl⟩
def qaH:Nat→List Int→(List (Int×T))→qe→qD→Int→qs→List At→Int→List qv→Option (qe×qD×Int×qs×(List At)×Int×(List qv)) |0,_,_,_,_,_,_,_,_,_=>none |fuel+1,v,x,j,n,o,p,l,q,r=>(fun(rec:List Int→(List (Int×T))→qe→qD→Int→qs→List At→Int→List qv→Option (qe×qD×Int×qs×(List At)×Int×(List qv)))=>bif((v.length:Int)==(l.length:Int))then (qaT fuel v x j n o p l q r).bind fun h=>bif h.1 then ((appO 8 [] v).bind fun F=>(appO 48 h.2.2.2.2.2.2.2 [(⟨F,x⟩:qv)]).bind fun G=>some (F,G,h)).bind fun H=>some (h.2.1,h.2.2.1,h.2.2.2.1,h.2.2.2.2.1,h.2.2.2.2.2.1,h.2.2.2.2.2.2.1,H.2.1) else some (h.2.1,h.2.2.1,h.2.2.2.1,h.2.2.2.2.1,h.2.2.2.2.2.1,h.2.2.2.2.2.2.1,h.2.2.2.2.2.2.2)  else forL (β:=qe×qD×Int×qs×(List At)×Int×(List qv)) (fun _ t(d,a,b,e,c,f,g) u=>(qbS d a b e c f g).bind fun z=>bif z then some (d,a,b,e,c,f,g)else bif((t.1==b) !=((v.length:Int)==a.fM))then u (d,a,b,e,c,f,g) else (qK v t.1).bind fun A=>bif A then u (d,a,b,e,c,f,g) else (getI c (v.length:Int)).bind fun B=>(qfC fuel x B t.2).bind fun w=>bif w.2 then (subO v 0 (v.length:Int)).bind fun C=>(appO 8 C [t.1]).bind fun E=>(rec E w.1 d a b e c f g).bind fun m=>u (m.1,m.2.1,m.2.2.1,m.2.2.2.1,m.2.2.2.2.1,m.2.2.2.2.2.1,m.2.2.2.2.2.2)    else u (d,a,b,e,c,f,g)) (fun(d,a,b,e,c,f,g)=>some (d,a,b,e,c,f,g)) 0 j.fh (j,n,o,p,l,q,r)) (qaH fuel)
def qg9(a:Nat)(b:Value):Tb:={fz:=[(6,[8])],rg:=[(8,[(0,0),(1,0),(2,0),(3,0),(4,0),(5,2),(6,0),(7,0),(8,0),(9,0),(10,0),(11,0),(12,2),(13,0),(14,0),(15,0),(16,0),(17,0),(18,0),(19,0),(20,0)]),(9,[(0,0),(1,0),(2,0),(3,0),(4,2),(5,0),(6,0),(7,0),(8,0),(9,0),(10,0),(11,0),(12,0),(13,0),(14,0),(15,0)]),(11,[(0,0),(1,0),(2,0),(3,0),(4,0),(5,0),(6,0),(7,0),(8,0),(9,0),(10,1)])],pl:=[(3,⟨(List Int)×(List qv)×(Bool×qe×qD×Int×qs×(List At)×Int×(List qv)),Value,[],fun e w=>[.ref a 0 [],.own (oS w [6]) []],[(0,0),(1,0),(2,0),(3,0),(5,0),(7,0)],(.cons 4 [] (.cons 6 [(8,.d),(9,.d)] (.cons 10 [(11,.d),(12,.d)] (.cons 13 [] .nil .nil) .nil) .nil) (.cons 6 [(8,.d),(9,.d)] (.cons 4 [] (.cons 10 [(11,.d),(12,.d)] (.cons 13 [] .nil .nil) .nil) .nil) .nil)),fun r nm e w=>([],[.cell a (.agg [qh r.2.2.2.1,qE r.2.2.2.2.1,.int .i64 r.2.2.2.2.2.1,qo r.2.2.2.2.2.2.1,.lst (r.2.2.2.2.2.2.2.1.map zK),.int .i64 r.2.2.2.2.2.2.2.2.1,.own nm (r.2.1.map qw)]),.row nm r.2.1.length 91 2])⟩)],ls:=[(0,⟨Nat×(qe×qD×Int×qs×(List At)×Int×(List qv)),[0,1,2,6,41,42],[0],fun s e w=>([(43,.int .i64 (s.1:Int))],[.cell a (.agg [qh s.2.1,qE s.2.2.1,.int .i64 s.2.2.2.1,qo s.2.2.2.2.1,.lst (s.2.2.2.2.2.1.map zK),.int .i64 s.2.2.2.2.2.2.1,.own (oS w [6]) (s.2.2.2.2.2.2.2.map qw)]),.row (oS w [6]) s.2.2.2.2.2.2.2.length 91 2]),[42]⟩)]}
instance kr_Prefined_join_extend_s1:∀(fuel:Nat)(m:List Int)(n:List (Int×T))(b:qe)(c:qD)(e:Int)(f:qs)(g:List At)(j:Int)(a:List qv),Co prog 190 (qaH fuel m n b c e f g j a) (fun(nm:Nat×Value)=>⟨[.ref nm.1 0 [],.lst (m.map (D.int .i64)),.lst (n.map zw)],[.cell nm.1 (.agg [qh b,qE c,.int .i64 e,qo f,.lst (g.map zK),.int .i64 j,.own nm.2 (a.map qw)]),.row nm.2 a.length 91 2],fun res d σ=>∃(l:Value),d= .tup []∧σ=[.cell nm.1 (.agg [qh res.1,qE res.2.1,.int .i64 res.2.2.1,qo res.2.2.2.1,.lst (res.2.2.2.2.1.map zK),.int .i64 res.2.2.2.2.2.1,.own l (res.2.2.2.2.2.2.map qw)]),.row l res.2.2.2.2.2.2.length 91 2]⟩)
 |0,_,_,_,_,_,_,_,_,_=>⟨fun _ _ h=>by cases h⟩
 |fuel+1,_,_,_,_,_,_,_,_,_=>by
  have IHR:=kr_Prefined_join_extend_s1 fuel;exact kO (fun nm=>qg9 nm.1 nm.2) func190 rfl (by unfold qaH;exact wO2)
def qdZ(fuel:Nat)(a0:qf)(c:qe)(a:qD)(a3:Int)(a4:Int):Option (List qv):=(getI a0.fe a.fp).bind fun b=>(qfe b).bind fun d=>(qaH fuel [] [] c a a3 b d a4 []).bind fun e=>some e.2.2.2.2.2.2
def qlw:Tb:={rf:=[27],fz:=[(1,[11])],rg:=[(2,[(0,0),(1,0),(2,0),(3,0),(4,0),(5,0),(6,0),(7,0),(8,1),(9,0)])],nl:=[(2,[(91,2,false)])]}
instance(fuel:Nat)(a0:qf)(a:qe)(b:qD)(a3:Int)(a4:Int):Cb prog 110 (qdZ fuel a0 a b a3 a4) [qj a0,qh a,qE b,.int .i64 a3,.int .i64 a4] (fun res=>.lst (res.map qw)):=kC qlw func110 rfl (by unfold qdZ;exact wS9)
instance:EF prog 93 qQ qaV 7:=⟨qkl,fun _=>rfl⟩
def qcg(fuel:Nat)(a0:qf)(d:qe)(u:Int):Option (List qQ):=bif d.fE then some ([])else bif((d.fk.length:Int)==(0:Int))then some ([])else (getI d.fk (wr ((d.fk.length:Int)-(1:Int)))).bind fun a=>bif(a.fj==(0:Int))then (qbv a.fi).bind fun v=>bif v then (qaq 1 0 0).bind fun w=>some w else (qaq 2 d.fl 0).bind fun x=>some x   else (qe7 d.fh a.fj).bind fun e=>bif(!e.2)then (qaq 7 a.fj a.fA).bind fun j=>some j else bif(a.fA==((-1):Int))then (qaq 3 a.fj a.fA).bind fun l=>some l else (qnB a0 e.1.n (e.1.ts.length:Int)).bind fun g=>bif(decide (a.fA≥(g.length:Int)))then (qaq 7 a.fj a.fA).bind fun m=>some m else (getI g a.fA).bind fun f=>jn (β:=Int) (fun c=>bif f.fN then c 5 else c 4) (fun o=>(qdZ fuel a0 d f a.fj u).bind fun p=>forL (β:=(List qQ)) (fun _ h b q=>(appO 104 b [(⟨(⟨o,a.fj,a.fA,f.fp,h.f0_ids⟩:qO),h⟩:qQ)]).bind fun r=>q r) (fun b=>bif((b.length:Int)==(0:Int))then (qaq 6 a.fj a.fA).bind fun t=>some t else some b) 0 p [])
def qli:Tb:={ow:=[14],fz:=[(4,[8]),(9,[9]),(17,[12]),(24,[16])],ls:=[(1,⟨Nat×(List qQ),[7,8,12,13,103,104],[14],fun s e w=>([(14,.own (oU e 14) (s.2.map qaV)),(105,.int .i64 (s.1:Int))],[.row (oU e 14) s.2.length 93 7]),[104]⟩)],js:=[(21,⟨Int,[2,3,4,7,8,12],[],fun s e w=>([(13,.int .i64 s)],[]),[]⟩)]}
instance(fuel:Nat)(a0:qf)(a:qe)(b:Int):Cb prog 27 (qcg fuel a0 a b) [qj a0,qh a,.int .i64 b] (fun res=>.lst (res.map qaV)):=kC qli func27 rfl (by unfold qcg;exact wS9)
def qeH(a0:List (Int×T))(b:List T):Option Bool:=forL (β:=Unit) (fun _ c _ a=>(qeM c).bind fun d=>bif(!d)then some false else a ()) (fun _=>(qeG a0).bind fun e=>some e) 0 b ()
def qoy:Tb:={fz:=[(3,[6])],ls:=[(0,⟨Nat×Unit,[0,7,8],[],fun s e w=>([(9,.int .i64 (s.1:Int))],[]),[8]⟩)]}
instance(a0:List (Int×T))(a:List T):Cb prog 286 (qeH a0 a) [.lst (a0.map zw),.lst (a.map zg)] (fun res=>.bool res):=kC qoy func286 rfl (by unfold qeH;exact wS9)
def qag(d:T)(e:T)(a:List T)(b:List T):Option ((List T)×(List T)):=((appO 56 a [d]).bind fun f=>(appO 56 b [e]).bind fun l2=>some (f,l2)).bind fun c=>some (c.1,c.2)
def qhg(a:Nat)(b:Value)(c:Value):Tb:={pl:=[(1,⟨(List T)×(List T),Value×Value,[],fun e w=>[.ref a 0 [],.own (oS w [0]) [],.own (oS w [1]) []],[(0,0),(1,0),(2,0),(3,0),(4,0),(6,0),(7,0),(9,0),(10,0),(11,0),(13,0),(14,0)],(.cons 5 [] (.cons 8 [] (.cons 12 [] (.cons 15 [(16,.d),(17,.d)] (.cons 18 [(19,.d),(20,.d)] (.cons 21 [] .nil .nil) .nil) .nil) .nil) (.cons 12 [] (.cons 8 [] (.cons 15 [(16,.d),(17,.d)] (.cons 18 [(19,.d),(20,.d)] (.cons 21 [] .nil .nil) .nil) .nil) .nil) .nil)) (.cons 12 [] (.cons 5 [] (.cons 8 [] (.cons 15 [(16,.d),(17,.d)] (.cons 18 [(19,.d),(20,.d)] (.cons 21 [] .nil .nil) .nil) .nil) .nil) .nil) .nil)),fun r nm e w=>([],[.cell a (.agg [.own nm.2 (r.1.map zg),.own nm.1 (r.2.map zg)]),.row nm.1 r.2.length 77 4,.row nm.2 r.1.length 77 4])⟩)]}
theorem qhc(j:T)(l:T)(a:List T)(b:List T)(c:Nat)(e:Value)(f:Value)(res:(List T)×(List T))(hr:qag j l a b=some res):Spec prog 309 [.ref c 0 [],zg j,zg l] [.cell c (.agg [.own e (a.map zg),.own f (b.map zg)]),.row e a.length 77 4,.row f b.length 77 4] (fun d σ=>∃(g:Value)(h:Value),d= .tup []∧σ=[.cell c (.agg [.own g (res.1.map zg),.own h (res.2.map zg)]),.row g res.1.length 77 4,.row h res.2.length 77 4]):=by
 unfold qag at hr;refine qdR (qhg c e f) func309 rfl fun K hK hF=>?_;exact wk9
instance(f:T)(g:T)(a:List T)(b:List T):Co prog 309 (qag f g a b) (fun(nm:Nat×Value×Value)=>⟨[.ref nm.1 0 [],zg f,zg g],[.cell nm.1 (.agg [.own nm.2.1 (a.map zg),.own nm.2.2 (b.map zg)]),.row nm.2.1 a.length 77 4,.row nm.2.2 b.length 77 4],fun res d σ=>∃(c:Value)(e:Value),d= .tup []∧σ=[.cell nm.1 (.agg [.own c (res.1.map zg),.own e (res.2.map zg)]),.row c res.1.length 77 4,.row e res.2.length 77 4]⟩):=⟨fun nm=>qhc f g a b nm.1 nm.2.1 nm.2.2⟩
end
end Go.Proofs.YtgcegilpajfdhaaGreat
