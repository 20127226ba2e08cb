/-
 Texts of the seat,merged.
-/
import Derived.Test.YtgcegilpajfdhaaGreatLTA
set_option linter.unusedVariables false
set_option linter.unusedSimpArgs false
set_option linter.unnecessarySimpa false
set_option linter.all false
set_option maxHeartbeats 8000000
namespace Go.Proofs.YtgcegilpajfdhaaGreat
open Go.Proofs.Tryz
set_option maxRecDepth 100000
open Go.RowKit
theorem qri(op:Int)(w:World):Calls prog 158 #[.int .i64 op] w (zY w (zO op)):=by
 go_enter func158,Tryz.ntmps158
 go_wp2
 all_goals go_ret
 all_goals(refine zY.mk ?_;unfold zO;(repeat' split)<;>first|rfl|(exfalso;simp at*;omega))
theorem qjc(n:Nat)(q:n≤1000000000)(a:At)(v:Value)(w:World)(hn:wtL a.ts≤n)(h:VA w a v):Calls prog 149 #[v] w (Ret w (Is (.bool (zn a)))):=by
 obtain⟨sl,rfl,hs,p⟩:=h.open_;have r:=zH (fun(w':World)(e:Ext w w')=>qmo n q a.ts sl w' hn (hs.ext e));obtain⟨A,c,xs,rfl,-⟩:=hs;have b:=zH (qkq a.n (Lib.hid p));have j:=zH (fun o=>(Ext.rfl' w).al o);clear h hn p;by_cases d:zR a.n
 · rw[d]at b
   by_cases l:a.ts.length≤6
   · have f:Hid (zn a=yj a.ts):=Lib.hid (by unfold zn;simp[d,l])
     have m:(a.ts.length:Int)≤6:=by omega
     clear d l
     go_enter func149,Tryz.ntmps149
     go_wp2_with fail
     refine((za b) _).mono ?_;rintro e w1 ⟨rfl,rfl⟩
     go_wp2_with fail
     refine((za r) _ ((za j) _)).mono ?_;rintro e t ⟨v,rfl,h,he⟩;obtain rfl:v=_:=h;have he:=zH (((za j) _).tr he)
     go_wp2
     go_ret
     exact Ret.mk (f.out▸rfl) (za he)
   · have f:Hid (zn a=false):=Lib.hid (by unfold zn;simp[l])
     have m:¬(a.ts.length:Int)≤6:=by omega
     clear d l
     go_enter func149,Tryz.ntmps149
     go_wp2_with fail
     refine((za b) _).mono ?_;rintro e w1 ⟨rfl,rfl⟩
     go_wp2
     go_ret
     exact Ret.mk (f.out▸rfl) ((za j) _)
 · have g:zR a.n=false:=by simpa using d
   rw[g]at b;have f:Hid (zn a=false):=Lib.hid (by unfold zn;simp[d]);clear d g
   go_enter func149,Tryz.ntmps149
   go_wp2_with fail
   refine((za b) _).mono ?_;rintro e w1 ⟨rfl,rfl⟩
   go_wp2
   go_ret
   exact Ret.mk (f.out▸rfl) ((za j) _)
theorem qmB(n:Nat)(B:n≤1000000000)(g:Gl)(v:Value)(w:World)(hn:wtL g.ts≤n)(m:VG w g v):Calls prog 91 #[v] w (Ret w (Is (.bool (zu g)))):=by
 obtain⟨sl,rfl,hs,E,C⟩:=m.open_;have F:=zH (fun(w':World)(e:Ext w w')=>qmo n B g.ts sl w' hn (hs.ext e));have u:=zH (fun(w':World)(e:Ext w w')=>qjc n B ⟨g.n,g.ts⟩ _ w' hn (VA.mk (hs.ext e) C));obtain⟨A,c,xs,rfl,-⟩:=hs;obtain⟨y,hy⟩:∃y,w.alloc (.cells #[.int .i64 g.op,.string g.n,.slice A g.ts.length c] 64)=y:=⟨_,rfl⟩
 have o:Hid (Ext w y):=Lib.hid (by rw[←hy];exact(Ext.rfl' w).al _);have b:y.cell? ⟨w.heap.size,0,none⟩=some (.int .i64 g.op):=by rw[←hy];exact qd8 w _ _ 0 _ rfl
 have d:y.cell? ⟨w.heap.size,1,none⟩=some (.string g.n):=by rw[←hy];exact qd8 w _ _ 1 _ rfl
 have f:y.cell? ⟨w.heap.size,2,none⟩=some (.slice A g.ts.length c):=by rw[←hy];exact qd8 w _ _ 2 _ rfl
 clear m hn C E;by_cases p:g.op=0
 · have q:Hid (zu g=zn ⟨g.n,g.ts⟩):=Lib.hid (by unfold zu;rw[if_pos p])
   have G:(g.op==0)=true:=by simpa using p
   clear p
   go_enter func91,Tryz.ntmps91
   go_wp2_with fail
   refine((za u) _ o.out).mono ?_;rintro e w1 ⟨v,rfl,m,he⟩;obtain rfl:v=_:=m;have he:=zH (o.out.tr he)
   go_wp2
   go_ret
   exact Ret.mk (q.out▸rfl) (za he)
 have q:Hid (zu g=(decide (g.n.toList=[])&&decide (zO g.op=(g.ts.length:Int))&&yj g.ts)):=Lib.hid (by unfold zu;rw[if_neg p]);have G:(g.op==0)=false:=by simpa using p
 clear p;by_cases hs:g.n.toList=[]
 · have x:g.n.toList.isEmpty=true:=by simp[hs]
   by_cases hl:zO g.op=(g.ts.length:Int)
   · have r:Hid (zu g=yj g.ts):=Lib.hid (by rw[q.out];simp[hs,hl])
     have z:=Lib.hid hl;clear hs hl
     go_enter func91,Tryz.ntmps91
     go_wp2_with fail
     refine qdr [(0,true),(1,true),(2,true),(3,true),(4,true),(5,true),(7,true),(8,true),(9,true),(6,false),(10,true),(11,true),(12,true),(13,true),(14,true),(15,false),(16,true),(17,true)] ob ob (Ext y) (Ext.rfl' y).dr ?_;iterate 9 (refine sQ rfl rfl ?_ ?_ ?_;rotate_left;(·(intro w' a;have z0:=a.cellOf b;have h:=a.cellOf d;have j:=a.cellOf f;go_simp;try with_reducible rfl));try simp only[Act.put,jQ,jK,jN])
     refine sL rfl rfl ?_
     go_wp2_with fail
     refine(qri _ _).mono ?_;rintro e w1 ⟨rfl,rfl⟩;rw[z.out]
     go_wp2_with fail
     refine SQ.mk (Ext.rfl' y).dr ?_;iterate 5 (refine sQ rfl rfl ?_ ?_ ?_;rotate_left;(·(intro w' a;have z0:=a.cellOf b;have h:=a.cellOf d;have j:=a.cellOf f;go_simp;try with_reducible rfl));try simp only[Act.put,jQ,jK,jN])
     refine sL rfl rfl ?_
     go_wp2_with fail
     refine((za F) _ (o.out.tr (Ext.rfl' y).dr)).mono ?_;rintro e I ⟨v,rfl,m,he⟩;obtain rfl:v=_:=m;have t:=(Ext.rfl' y).dr.tr he;clear he
     go_wp2_with fail
     refine SQ.mk t ?_;iterate 2 (refine sQ rfl rfl ?_ ?_ ?_;rotate_left;(·(intro w' a;have z0:=a.cellOf b;have h:=a.cellOf d;have j:=a.cellOf f;go_simp;try with_reducible rfl));try simp only[Act.put,jQ,jK,jN])
     refine sE ?_
     go_wp2
     go_ret
     exact Ret.mk (r.out▸rfl) (o.out.tr t)
   · have r:Hid (zu g=false):=Lib.hid (by rw[q.out];simp[hl])
     obtain⟨ar,l⟩:∃ar,zO g.op=ar:=⟨_,rfl⟩
     have z:=Lib.hid l;have H:(ar==(g.ts.length:Int))=false:=by rw[←l];simpa using hl
     clear hs hl l
     go_enter func91,Tryz.ntmps91
     go_wp2_with fail
     refine qdr [(0,true),(1,true),(2,true),(3,true),(4,true),(5,true),(7,true),(8,true),(9,true),(6,false),(10,true),(11,true),(12,true),(13,true),(14,true),(15,false),(16,true),(17,true)] ob ob (Ext y) (Ext.rfl' y).dr ?_;iterate 9 (refine sQ rfl rfl ?_ ?_ ?_;rotate_left;(·(intro w' a;have z0:=a.cellOf b;have h:=a.cellOf d;have j:=a.cellOf f;go_simp;try with_reducible rfl));try simp only[Act.put,jQ,jK,jN])
     refine sL rfl rfl ?_
     go_wp2_with fail
     refine(qri _ _).mono ?_;rintro e w1 ⟨rfl,rfl⟩;rw[z.out]
     go_wp2_with fail
     refine SQ.mk (Ext.rfl' y).dr ?_;iterate 3 (refine sQ rfl rfl ?_ ?_ ?_;rotate_left;(·(intro w' a;have z0:=a.cellOf b;have h:=a.cellOf d;have j:=a.cellOf f;go_simp;try with_reducible rfl));try simp only[Act.put,jQ,jK,jN])
     iterate 2 (refine sN rfl rfl ?_;simp only[Act.put,jQ,jK,jN])
     (refine sM rfl rfl ?_;simp only[Act.put,jQ,jK,jN])
     iterate 2 (refine sQ rfl rfl ?_ ?_ ?_;rotate_left;(·(intro w' a;have z0:=a.cellOf b;have h:=a.cellOf d;have j:=a.cellOf f;go_simp;try with_reducible rfl));try simp only[Act.put,jQ,jK,jN])
     refine sE ?_
     go_wp2
     go_ret
     exact Ret.mk (r.out▸rfl) (o.out.tr (Ext.rfl' y).dr)
 · have x:g.n.toList.isEmpty=false:=by simpa using hs
   have r:Hid (zu g=false):=Lib.hid (by rw[q.out];simp[hs]);clear hs
   go_enter func91,Tryz.ntmps91
   go_wp2_with fail
   refine qdr [(0,true),(1,true),(2,true),(3,true),(4,true),(5,true),(7,true),(8,true),(9,true),(6,false),(10,true),(11,true),(12,true),(13,true),(14,true),(15,false),(16,true),(17,true)] ob ob (Ext y) (Ext.rfl' y).dr ?_;iterate 4 (refine sQ rfl rfl ?_ ?_ ?_;rotate_left;(·(intro w' a;have z0:=a.cellOf b;have h:=a.cellOf d;have j:=a.cellOf f;go_simp;try with_reducible rfl));try simp only[Act.put,jQ,jK,jN])
   iterate 5 (refine sN rfl rfl ?_;simp only[Act.put,jQ,jK,jN])
   (refine sM rfl rfl ?_;simp only[Act.put,jQ,jK,jN])
   iterate 1 (refine sN rfl rfl ?_;simp only[Act.put,jQ,jK,jN])
   iterate 2 (refine sQ rfl rfl ?_ ?_ ?_;rotate_left;(·(intro w' a;have z0:=a.cellOf b;have h:=a.cellOf d;have j:=a.cellOf f;go_simp;try with_reducible rfl));try simp only[Act.put,jQ,jK,jN])
   iterate 2 (refine sN rfl rfl ?_;simp only[Act.put,jQ,jK,jN])
   (refine sM rfl rfl ?_;simp only[Act.put,jQ,jK,jN])
   iterate 2 (refine sQ rfl rfl ?_ ?_ ?_;rotate_left;(·(intro w' a;have z0:=a.cellOf b;have h:=a.cellOf d;have j:=a.cellOf f;go_simp;try with_reducible rfl));try simp only[Act.put,jQ,jK,jN])
   refine sE ?_
   go_wp2
   go_ret
   exact Ret.mk (r.out▸rfl) (o.out.tr (Ext.rfl' y).dr)
theorem qgq(w:World)(cs:Array Value)(t:TypeId)(j:Nat)(u:Value)(g:Nat)(a:w.heap.size=g)(h:cs[j]? =some u):(w.alloc (.cells cs t)).cell? ⟨g,j,none⟩=some u:=by
 subst a;exact qd8 w cs t j u h
def zbk(a b:At):Int:=orI (orI (yr a.n b.n) (zP a.ts.length b.ts.length)) (cmpL a.ts b.ts)
theorem qoM(n:Nat)(G:n≤1000000000)(a b:At)(v x:Value)(w:World)(hn:wtL a.ts≤n)(m:VA w a v)(F:VA w b x):Calls prog 209 #[v,x] w (Ret w (Is (.int .i64 (zbk a b)))):=by
 obtain⟨H,rfl,h,-⟩:=m.open_;obtain⟨I,rfl,j,-⟩:=F.open_;have J:=zH (fun(w':World)(e:Ext w w')=>qq9 n G a.ts b.ts H I w' hn (h.ext e) (j.ext e));obtain⟨f,g,K,rfl,-⟩:=h;obtain⟨o,r,L,rfl,-⟩:=j;clear m F hn;obtain⟨y,hy⟩:∃y,((w.alloc (.cells #[.string a.n,.slice f a.ts.length g] 81)).alloc (.cells #[.string b.n,.slice o b.ts.length r] 81))=y:=⟨_,rfl⟩
 have t:Hid (Ext w y):=Lib.hid (by rw[←hy];exact(((Ext.rfl' w).al _).al _));have M:y.cell? ⟨w.heap.size,0,none⟩=some (.string a.n):=by rw[←hy];exact((Ext.rfl' _).al _).cellOf (qgq w #[.string a.n,.slice f a.ts.length g] 81 0 _ (w.heap.size) og rfl)
 have N:y.cell? ⟨w.heap.size,1,none⟩=some (.slice f a.ts.length g):=by rw[←hy];exact((Ext.rfl' _).al _).cellOf (qgq w #[.string a.n,.slice f a.ts.length g] 81 1 _ (w.heap.size) og rfl)
 have O:y.cell? ⟨w.heap.size+1,0,none⟩=some (.string b.n):=by rw[←hy];exact qgq (w.alloc (.cells #[.string a.n,.slice f a.ts.length g] 81)) #[.string b.n,.slice o b.ts.length r] 81 0 _ (w.heap.size+1) og rfl
 have P:y.cell? ⟨w.heap.size+1,1,none⟩=some (.slice o b.ts.length r):=by rw[←hy];exact qgq (w.alloc (.cells #[.string a.n,.slice f a.ts.length g] 81)) #[.string b.n,.slice o b.ts.length r] 81 1 _ (w.heap.size+1) og rfl
 obtain⟨p,u⟩:∃p,yr a.n b.n=p:=⟨_,rfl⟩
 obtain⟨q,hq⟩:∃q,zP a.ts.length b.ts.length=q:=⟨_,rfl⟩
 have z:=Lib.hid u;have A:=Lib.hid hq;have B:Hid (zbk a b=orI (orI p q) (cmpL a.ts b.ts)):=Lib.hid (by unfold zbk;rw[u,hq]);clear u hq;by_cases c:p=0
 · have C:(p==0)=true:=by simpa using c
   by_cases d:q=0
   · have E:(q==0)=true:=by simpa using d
     have hlen:Hid (a.ts.length=b.ts.length):=Lib.hid (by
      have:=qkW (A.out.trans d);omega)
     have l:Hid (zbk a b=yC a.ts b.ts):=Lib.hid (by rw[B.out,qkQ hlen.out];unfold orI;simp[c,d]);clear c d
     go_enter func209,Tryz.ntmps209
     go_wp2_with fail
     refine(qhZ _ _ _).mono ?_;rintro e w1 ⟨rfl,rfl⟩;rw[z.out]
     go_wp2_with fail
     refine(qeh _ _ _).mono ?_;rintro e Q ⟨rfl,rfl⟩;rw[A.out]
     go_wp2_with fail
     refine((za J) _ t.out).mono ?_;rintro e R ⟨v,rfl,m,he⟩;obtain rfl:v=_:=m;have he:=zH (t.out.tr he)
     go_wp2
     go_ret
     rw[l.out];exact Ret.mk rfl (za he)
   · have E:(q==0)=false:=by simpa using d
     have l:Hid (zbk a b=q):=Lib.hid (by rw[B.out];unfold orI;simp[c,d]);clear c d
     go_enter func209,Tryz.ntmps209
     go_wp2_with fail
     refine(qhZ _ _ _).mono ?_;rintro e w1 ⟨rfl,rfl⟩;rw[z.out]
     go_wp2_with fail
     refine(qeh _ _ _).mono ?_;rintro e Q ⟨rfl,rfl⟩;rw[A.out]
     go_wp2
     go_ret
     rw[l.out];exact Ret.mk rfl t.out
 · have C:(p==0)=false:=by simpa using c
   have l:Hid (zbk a b=p):=Lib.hid (by rw[B.out];unfold orI;simp[c]);clear c
   go_enter func209,Tryz.ntmps209
   go_wp2_with fail
   refine(qhZ _ _ _).mono ?_;rintro e w1 ⟨rfl,rfl⟩;rw[z.out]
   go_wp2
   go_ret
   rw[l.out];exact Ret.mk rfl t.out
theorem qoq(n:Nat)(j:n≤1000000000)(a b:At)(v x:Value)(w:World)(hn:wtL a.ts≤n)(c:VA w a v)(d:VA w b x):Calls prog 139 #[v,x] w (Ret w (Is (.bool (zbk a b==0)))):=by
 have l:=zH (fun(w':World)(e:Ext w w')=>qoM n j a b v x w' hn (c.ext e) (d.ext e));obtain⟨t,rfl,f,-⟩:=c.open_;obtain⟨u,rfl,g,-⟩:=d.open_;obtain⟨z,A,m,rfl,-⟩:=f;obtain⟨B,C,r,rfl,-⟩:=g;have h:=zH (fun o p=>((Ext.rfl' w).al o).al p);clear c d hn
 go_enter func139,Tryz.ntmps139
 go_wp2_with fail
 refine((za l) _ ((za h) _ _)).mono ?_;rintro e w1 ⟨v,rfl,c,he⟩;obtain rfl:v=_:=c;have he:=zH (((za h) _ _).tr he);generalize zbk a b=q at*
 go_wp2
 go_ret
 exact Ret.mk rfl (za he)
theorem qpv(n:Nat)(c:n≤1000000000)(ts us:List T)(v x:Value)(w:World)(hn:wtL ts≤n)(a:SlT w ts v)(b:SlT w us x):Calls prog 208 #[v,x] w (Ret w (Is (.bool (yC ts us==0)))):=by
 have d:=zH (qq9 n c ts us v x w hn a b);obtain⟨h,j,f,rfl,-⟩:=a;obtain⟨l,m,g,rfl,-⟩:=b;clear hn
 go_enter func208,Tryz.ntmps208
 go_wp2_with fail
 refine(za d).mono ?_;rintro e w1 ⟨v,rfl,a,he⟩;obtain rfl:v=_:=a;generalize yC ts us=q at*;have he:=zH he
 go_wp2
 go_ret
 exact Ret.mk rfl (za he)
def yn(a b:Gl):Bool:=a.op==b.op&&a.n.toList==b.n.toList&&a.ts.length==b.ts.length&&cmpL a.ts b.ts==0
theorem qrf(n:Nat)(C:n≤1000000000)(a b:Gl)(v x:Value)(w:World)(hn:wtL a.ts≤n)(u:VG w a v)(A:VG w b x):Calls prog 305 #[v,x] w (Ret w (Is (.bool (yn a b)))):=by
 obtain⟨E,rfl,m,-⟩:=u.open_;obtain⟨F,rfl,o,-⟩:=A.open_;have G:=zH (fun(w':World)(e:Ext w w')(h:a.ts.length=b.ts.length)=>qxX n C a.ts b.ts E F w' hn h (m.ext e) (o.ext e));obtain⟨d,f,H,rfl,-⟩:=m;obtain⟨p,r,I,rfl,-⟩:=o;clear u A hn;obtain⟨y,hy⟩:∃y,((w.alloc (.cells #[.int .i64 a.op,.string a.n,.slice d a.ts.length f] 64)).alloc (.cells #[.int .i64 b.op,.string b.n,.slice p b.ts.length r] 64))=y:=⟨_,rfl⟩
 have t:Hid (Ext w y):=Lib.hid (by rw[←hy];exact(((Ext.rfl' w).al _).al _));have J:y.cell? ⟨w.heap.size,0,none⟩=some (.int .i64 a.op):=by rw[←hy];exact((Ext.rfl' _).al _).cellOf (qgq w #[.int .i64 a.op,.string a.n,.slice d a.ts.length f] 64 0 _ (w.heap.size) og rfl)
 have K:y.cell? ⟨w.heap.size,1,none⟩=some (.string a.n):=by rw[←hy];exact((Ext.rfl' _).al _).cellOf (qgq w #[.int .i64 a.op,.string a.n,.slice d a.ts.length f] 64 1 _ (w.heap.size) og rfl)
 have L:y.cell? ⟨w.heap.size,2,none⟩=some (.slice d a.ts.length f):=by rw[←hy];exact((Ext.rfl' _).al _).cellOf (qgq w #[.int .i64 a.op,.string a.n,.slice d a.ts.length f] 64 2 _ (w.heap.size) og rfl)
 have M:y.cell? ⟨w.heap.size+1,0,none⟩=some (.int .i64 b.op):=by rw[←hy];exact qgq (w.alloc (.cells #[.int .i64 a.op,.string a.n,.slice d a.ts.length f] 64)) #[.int .i64 b.op,.string b.n,.slice p b.ts.length r] 64 0 _ (w.heap.size+1) og rfl
 have N:y.cell? ⟨w.heap.size+1,1,none⟩=some (.string b.n):=by rw[←hy];exact qgq (w.alloc (.cells #[.int .i64 a.op,.string a.n,.slice d a.ts.length f] 64)) #[.int .i64 b.op,.string b.n,.slice p b.ts.length r] 64 1 _ (w.heap.size+1) og rfl
 have O:y.cell? ⟨w.heap.size+1,2,none⟩=some (.slice p b.ts.length r):=by rw[←hy];exact qgq (w.alloc (.cells #[.int .i64 a.op,.string a.n,.slice d a.ts.length f] 64)) #[.int .i64 b.op,.string b.n,.slice p b.ts.length r] 64 2 _ (w.heap.size+1) og rfl
 by_cases c:a.op=b.op
 · by_cases g:a.n.toList=b.n.toList
   · by_cases l:a.ts.length=b.ts.length
     · have j:Hid (yn a b=(cmpL a.ts b.ts==0)):=Lib.hid (by unfold yn;simp[c,g,l])
       have z:(a.op==b.op)=true:=by simpa using c
       have B:(a.n.toList==b.n.toList)=true:=by simpa using g
       have P:((a.ts.length:Int)==(b.ts.length:Int))=true:=by simp[l]
       have Q:=Lib.hid l;clear c g l
       go_enter func305,Tryz.ntmps305
       go_wp2_with fail
       refine((za G) _ t.out Q.out).mono ?_;rintro e w1 ⟨v,rfl,u,he⟩;obtain rfl:v=_:=u;have he:=zH (t.out.tr he);generalize cmpL a.ts b.ts=q at*
       go_wp2
       go_ret
       rw[j.out];exact Ret.mk rfl (za he)
     · have j:Hid (yn a b=false):=Lib.hid (by unfold yn;simp[l])
       have z:(a.op==b.op)=true:=by simpa using c
       have B:(a.n.toList==b.n.toList)=true:=by simpa using g
       have P:((a.ts.length:Int)==(b.ts.length:Int))=false:=by simp;omega
       clear c g l
       go_enter func305,Tryz.ntmps305
       go_wp2
       go_ret
       rw[j.out];exact Ret.mk rfl t.out
   · have j:Hid (yn a b=false):=Lib.hid (by unfold yn;simp[g])
     have z:(a.op==b.op)=true:=by simpa using c
     have B:(a.n.toList==b.n.toList)=false:=by simpa using g
     clear c g
     go_enter func305,Tryz.ntmps305
     go_wp2
     go_ret
     rw[j.out];exact Ret.mk rfl t.out
 · have j:Hid (yn a b=false):=Lib.hid (by unfold yn;simp[c])
   have z:(a.op==b.op)=false:=by simpa using c
   clear c
   go_enter func305,Tryz.ntmps305
   go_wp2
   go_ret
   rw[j.out];exact Ret.mk rfl t.out
theorem qnu(n:Nat)(E:n≤1000000000)(a b:Gl)(v x:Value)(w:World)(hn:wtL a.ts≤n)(u:VG w a v)(A:VG w b x):Calls prog 138 #[v,x] w (Ret w (Is (.bool (yn a b)))):=by
 obtain⟨F,rfl,m,-⟩:=u.open_;obtain⟨G,rfl,o,-⟩:=A.open_;have H:=zH (fun(w':World)(e:Ext w w')(h:a.ts.length=b.ts.length)=>qpv n E a.ts b.ts F G w' hn (m.ext e) (o.ext e));obtain⟨d,f,I,rfl,-⟩:=m;obtain⟨p,r,J,rfl,-⟩:=o;clear u A hn;obtain⟨y,hy⟩:∃y,((w.alloc (.cells #[.int .i64 a.op,.string a.n,.slice d a.ts.length f] 64)).alloc (.cells #[.int .i64 b.op,.string b.n,.slice p b.ts.length r] 64))=y:=⟨_,rfl⟩
 have t:Hid (Ext w y):=Lib.hid (by rw[←hy];exact(((Ext.rfl' w).al _).al _));have K:y.cell? ⟨w.heap.size,0,none⟩=some (.int .i64 a.op):=by rw[←hy];exact((Ext.rfl' _).al _).cellOf (qgq w #[.int .i64 a.op,.string a.n,.slice d a.ts.length f] 64 0 _ (w.heap.size) og rfl)
 have L:y.cell? ⟨w.heap.size,1,none⟩=some (.string a.n):=by rw[←hy];exact((Ext.rfl' _).al _).cellOf (qgq w #[.int .i64 a.op,.string a.n,.slice d a.ts.length f] 64 1 _ (w.heap.size) og rfl)
 have M:y.cell? ⟨w.heap.size,2,none⟩=some (.slice d a.ts.length f):=by rw[←hy];exact((Ext.rfl' _).al _).cellOf (qgq w #[.int .i64 a.op,.string a.n,.slice d a.ts.length f] 64 2 _ (w.heap.size) og rfl)
 have N:y.cell? ⟨w.heap.size+1,0,none⟩=some (.int .i64 b.op):=by rw[←hy];exact qgq (w.alloc (.cells #[.int .i64 a.op,.string a.n,.slice d a.ts.length f] 64)) #[.int .i64 b.op,.string b.n,.slice p b.ts.length r] 64 0 _ (w.heap.size+1) og rfl
 have O:y.cell? ⟨w.heap.size+1,1,none⟩=some (.string b.n):=by rw[←hy];exact qgq (w.alloc (.cells #[.int .i64 a.op,.string a.n,.slice d a.ts.length f] 64)) #[.int .i64 b.op,.string b.n,.slice p b.ts.length r] 64 1 _ (w.heap.size+1) og rfl
 have P:y.cell? ⟨w.heap.size+1,2,none⟩=some (.slice p b.ts.length r):=by rw[←hy];exact qgq (w.alloc (.cells #[.int .i64 a.op,.string a.n,.slice d a.ts.length f] 64)) #[.int .i64 b.op,.string b.n,.slice p b.ts.length r] 64 2 _ (w.heap.size+1) og rfl
 by_cases c:a.op=b.op
 · by_cases g:a.n.toList=b.n.toList
   · by_cases l:a.ts.length=b.ts.length
     · have j:Hid (yn a b=(cmpL a.ts b.ts==0)):=Lib.hid (by unfold yn;simp[c,g,l])
       have z:(a.op==b.op)=true:=by simpa using c
       have B:(a.n.toList==b.n.toList)=true:=by simpa using g
       have Q:((a.ts.length:Int)==(b.ts.length:Int))=true:=by simp[l]
       have C:=Lib.hid l;clear c g l
       go_enter func138,Tryz.ntmps138
       go_wp2_with fail
       refine((za H) _ t.out C.out).mono ?_;rintro e w1 ⟨v,rfl,u,he⟩;obtain rfl:v=_:=u;have he:=zH (t.out.tr he);rw[qkQ C.out];generalize cmpL a.ts b.ts=q at*
       go_wp2
       go_ret
       rw[j.out];exact Ret.mk rfl (za he)
     · have j:Hid (yn a b=false):=Lib.hid (by unfold yn;simp[l])
       have z:(a.op==b.op)=true:=by simpa using c
       have B:(a.n.toList==b.n.toList)=true:=by simpa using g
       have Q:((a.ts.length:Int)==(b.ts.length:Int))=false:=by simp;omega
       clear c g l
       go_enter func138,Tryz.ntmps138
       go_wp2
       go_ret
       rw[j.out];exact Ret.mk rfl t.out
   · have j:Hid (yn a b=false):=Lib.hid (by unfold yn;simp[g])
     have z:(a.op==b.op)=true:=by simpa using c
     have B:(a.n.toList==b.n.toList)=false:=by simpa using g
     clear c g
     go_enter func138,Tryz.ntmps138
     go_wp2
     go_ret
     rw[j.out];exact Ret.mk rfl t.out
 · have j:Hid (yn a b=false):=Lib.hid (by unfold yn;simp[c])
   have z:(a.op==b.op)=false:=by simpa using c
   clear c
   go_enter func138,Tryz.ntmps138
   go_wp2
   go_ret
   rw[j.out];exact Ret.mk rfl t.out
mutual
theorem qwO{w:World}:∀(t:T)(v:Value),VT w t v→∀x∈zX t,I64 x
 |.mk k i s ar,v,h,x,a=>by
  obtain⟨sl,-,hs,_,hi,_⟩:=h.open_;obtain⟨A,c,xs,-,-,-,-,b⟩:=hs;simp only[zX]at a;split at a
  obtain rfl:=jr.1 a;exact hi;split at a
  exact qqd ar xs b x a;simp at a
theorem qqd{w:World}:∀(l:List T)(xs:List Value),CL w l xs→∀x∈zy l,I64 x
 |[],_,_,x,a=>by simp[zy]at a
 |t::l,xs,h,x,a=>by
  simp only[CL]at h;obtain⟨cs,ys,-,b,c⟩:=h;simp only[zy,jl]at a;rcases a with a|a
  exact qwO t _ ⟨cs,rfl,b⟩ x a;exact qqd l ys c x a
end
end Go.Proofs.YtgcegilpajfdhaaGreat
namespace Go.Proofs.YtgcegilpajfdhaaGreat
open Go.Proofs.Tryz
set_option maxRecDepth 100000
def bv(b:UInt8):Value:=.int .u8 b.toNat
theorem qzA(l:List UInt8):∀u∈l.map bv,u.oneCell'=true:=by
 intro u hu;obtain⟨b,_,rfl⟩:=jt.1 hu;rfl
def IsB(base:Nat)(bs:List UInt8)(v:Value)(w':World):Prop:=zbE base 5 1 bs.length (bs.map bv) v w'
theorem IsB.mk{base n:Nat}{bs:List UInt8}{xs:List Value}{A:Option Addr}{c:Nat}{w':World}(h:w'.ownsRow base 5 1 (.slice A n c) n xs)(a:xs=bs.map bv)(hn:n=bs.length):IsB base bs (.slice A n c) w':=zbE.mk h a hn
theorem IsB.own{base:Nat}{bs:List UInt8}{v:Value}{w':World}(h:IsB base bs v w'):∃A c,v= .slice A bs.length c∧w'.ownsRow base 5 1 (.slice A bs.length c) bs.length (bs.map bv):=h
def zig(k:Int):Nat:=if 0≤k then(2*k).toNat else(-2*k-1).toNat
def zag(u:Nat):Int:=if u%2=0 then((u/2:Nat):Int)else-((u/2:Nat):Int)-1
theorem qxH(k:Int):zag (zig k)=k:=by
 unfold zag zig;split<;>split<;>omega
theorem qAG(u:Nat):zig (zag u)=u:=by
 unfold zag zig;split<;>split<;>omega
theorem qt4{k:Int}(a: -9223372036854775808≤k)(b:k<9223372036854775808):zig k<18446744073709551616:=by
 unfold zig;split<;>omega
theorem qBs{u:Nat}(h:u<18446744073709551616): -9223372036854775808≤zag u∧zag u<9223372036854775808:=by
 unfold zag;split<;>omega
def zbU:Nat→Nat→List UInt8 |0,u=>[UInt8.ofNat u] |f+1,u=>if u<128 then[UInt8.ofNat u]else UInt8.ofNat (u%128+128)::zbU f (u/128)
def enc(u:Nat):List UInt8:=zbU u u
theorem qwR:∀(f g u:Nat),u≤f→u≤g→zbU f u=zbU g u
 |0,g,u,h,_=>by
  obtain rfl:u=0:=by omega
  cases g<;>simp[zbU]
 |f+1,0,u,_,h=>by
  obtain rfl:u=0:=by omega
  simp[zbU]
 |f+1,g+1,u,a,b=>by
  unfold zbU;split
  rfl;rw[qwR f g (u/128) oa oa]
theorem qfz{u:Nat}(h:u<128):enc u=[UInt8.ofNat u]:=by
 unfold enc;cases u<;>simp[zbU];omega
theorem qn6{u:Nat}(h:128≤u):enc u=UInt8.ofNat (u%128+128)::enc (u/128):=by
 obtain⟨v,rfl⟩:∃v,u=v+1:=⟨u-1,by omega⟩
 show zbU (v+1) (v+1)=_;rw[zbU,if_neg oa];congr 1
 exact qwR _ _ _ oa (jf _)
theorem qwg:∀(k u:Nat),u<128^(k+1)→(enc u).length≤k+1
 |0,u,h=>by rw[qfz (by simpa using h)];simp
 |k+1,u,h=>by
  rcases Jj u 128 with hu|hu
  rw[qfz hu];simp;rw[qn6 hu,jg];have:=qwg k (u/128) (by rw[Nat.pow_succ]at h;omega);omega
theorem qAi(u:Nat):1≤(enc u).length:=by
 rcases Jj u 128 with hu|hu
 rw[qfz hu];simp;rw[qn6 hu];simp
theorem qng{u:Nat}(h:u<18446744073709551616):(enc u).length≤10:=qwg 9 u oa
def zZ(k:Nat):List UInt8→Nat×Nat×Nat |[]=>(0,0,4) |c::r=>if k=9∧1<c.toNat then(0,0,3)else if c.toNat<128 then if 0<k∧c.toNat=0 then(0,0,3)else(c.toNat,1,0) else match zZ (k+1) r with |(u,n,e)=>if e=0 then(c.toNat-128+128*u,n+1,0)else(0,0,e)
theorem qjC(k:Nat)(c:UInt8)(r:List UInt8):zZ k (c::r)=if k=9∧1<c.toNat then(0,0,3)
 else if c.toNat<128 then(if 0<k∧c.toNat=0 then(0,0,3)else(c.toNat,1,0))
 else if(zZ (k+1) r).2.2=0 then(c.toNat-128+128*(zZ (k+1) r).1,(zZ (k+1) r).2.1+1,0)else(0,0,(zZ (k+1) r).2.2):=rfl
theorem qx4(k:Nat)(l:List UInt8):(zZ k l).2.2=0∨((zZ k l).1=0∧(zZ k l).2.1=0∧((zZ k l).2.2=3∨(zZ k l).2.2=4)):=by
 induction l generalizing k with
 |nil=>right;simp[zZ]
 |cons c r a=>
  unfold zZ;split
  simp;split
  split<;>simp
  have:=a (k+1);generalize zZ (k+1) r=x at*;obtain⟨u,n,e⟩:=x;simp only at this⊢;split
  simp;rcases this with h|h
  contradiction;simp[h.2.2]
theorem qCC(k c u:Nat)(a:k<9)(b:c<128)(h:u*128^(k+1)<18446744073709551616):(c+128*u)*128^k<18446744073709551616:=by
 have hq:18446744073709551616=2^(64-7*(k+1))*128^(k+1):=by
  rw[show(128:Nat)=2^7 by rfl,←Nat.pow_mul,←Nat.pow_add,show 64-7*(k+1)+7*(k+1)=64 by omega]
 generalize 2^(64-7*(k+1))=q at hq;rw[hq]at h⊢;have d:u<q:=Nat.lt_of_mul_lt_mul_right h;have e:(c+128*u)*128^k<128*(u+1)*128^k:=Nat.mul_lt_mul_of_pos_right oa (Nat.pow_pos oa);have f:128*(u+1)*128^k=(u+1)*128^(k+1):=by rw[Nat.pow_succ,Nat.mul_comm (128^k) 128,←Nat.mul_assoc,Nat.mul_comm (u+1) 128]
 have g:(u+1)*128^(k+1)≤q*128^(k+1):=jH _ oa;omega
theorem quL(k:Nat)(l:List UInt8)(w:k≤9)(h:(zZ k l).2.2=0):
 (zZ k l).1*128^k<18446744073709551616∧l.take (zZ k l).2.1=enc (zZ k l).1∧(zZ k l).2.1=(enc (zZ k l).1).length∧(zZ k l).2.1≤l.length∧(0<k→0<(zZ k l).1):=by
 induction l generalizing k with
 |nil=>simp[zZ]at h
 |cons c r g=>
  unfold zZ at h⊢;split at h
  simp at h;rename_i j
  rw[if_neg j];split at h
  rename_i d
  rw[if_pos d];split at h
  simp at h;rename_i m
  rw[if_neg m];simp only[qfz d,UInt8.ofNat_toNat,vQ,vY,jg,ji,true_and];refine⟨?_,by omega,by omega⟩;rcases Jj k 9 with a|a
  have:128^k≤128^8:=Nat.pow_le_pow_right oa oa;have f:c.toNat*128^k≤127*128^8:=Nat.mul_le_mul oa this;omega;obtain rfl:k=9:=by omega
  omega;rename_i d
  rw[if_neg d];have a:k<9:=by omega
  have b:=g (k+1) oa;generalize zZ (k+1) r=x at*;obtain⟨u,n,e⟩:=x;simp only at b h⊢;split at h
  rename_i he
  rw[if_pos he];obtain⟨o,f,p,q,t⟩:=b he;have hu:=t oa;have v:=UInt8.toNat_lt c;have hd:(c.toNat-128+128*u)%128=c.toNat-128:=by omega
  have hq:(c.toNat-128+128*u)/128=u:=by omega
  simp only;rw[qn6 oa,hd,hq,show c.toNat-128+128=c.toNat by omega,UInt8.ofNat_toNat];refine⟨?_,by simp[f],by simp[p],by simp[q],by omega⟩;exact qCC k _ u a oa o;simp only at h;omega
theorem qA7(k u:Nat)(r:List UInt8)(hu:u*128^k<18446744073709551616)(f:k≤9)(c:0<k→0<u):zZ k (enc u++r)=(u,(enc u).length,0):=by
 induction hm:9-k generalizing k u with
 |zero=>
  obtain rfl:k=9:=by omega
  have d:u<2:=by omega
  rw[qfz oa];have:=c oa;obtain rfl:u=1:=by omega
  simp[zZ]
 |succ m e=>
  rcases Jj u 128 with hs|hs
  rw[qfz hs];have a:(UInt8.ofNat u).toNat=u:=by simp only[UInt8.toNat_ofNat'];omega
  simp only[jy,jq,zZ,a,jg,ji];rw[if_neg oa,if_pos hs,if_neg oa];rw[qn6 hs];have a:(UInt8.ofNat (u%128+128)).toNat=u%128+128:=by simp only[UInt8.toNat_ofNat'];omega
  have hd:u/128*128^(k+1)<18446744073709551616:=by
   have:u/128*128^(k+1)≤u*128^k:=by
    rw[Nat.pow_succ,Nat.mul_comm (128^k) 128,←Nat.mul_assoc];exact jH _ oa
   omega
  have b:=e (k+1) (u/128) hd oa oa oa;simp only[jy,zZ,a,b,jg];rw[if_neg oa,if_neg oa];simp;omega
def accM(acc k:Nat)(x:Nat×Nat×Nat):Nat×Nat×Nat:=if x.2.2=0 then(acc+128^k*x.1,k+x.2.1,0)else(0,0,x.2.2)
theorem qwu(x:List UInt8):accM 0 0 (zZ 0 x)=zZ 0 x:=by
 unfold accM;rcases qx4 0 x with h|⟨d,e,_⟩
 rw[if_pos h];generalize zZ 0 x=y at*;obtain⟨a,b,c⟩:=y;simp only at h;simp[h];split
 rename_i h
 generalize zZ 0 x=y at*;obtain⟨a,b,c⟩:=y;simp only at h d e;simp[h,d,e];generalize zZ 0 x=y at*;obtain⟨a,b,c⟩:=y;simp only at d e;simp[d,e]
theorem qw0{acc k:Nat}{c:UInt8}{r:List UInt8}(d:k<9)(f:128≤c.toNat):accM acc k (zZ k (c::r))=accM (acc+128^k*(c.toNat-128)) (k+1) (zZ (k+1) r):=by
 rw[qjC,if_neg oa,if_neg oa];generalize zZ (k+1) r=y;obtain⟨a,b,e⟩:=y;unfold accM;by_cases he:e=0;subst he;simp only[if_true,Prod.mk.injEq];refine⟨?_,by omega,trivial⟩;rw[Nat.pow_succ,Nat.mul_add,Nat.mul_assoc,jS];simp[he]
end Go.Proofs.YtgcegilpajfdhaaGreat
namespace Go.Proofs.YtgcegilpajfdhaaGreat
open Go.Proofs.Tryz
set_option maxRecDepth 100000
open Go.RowKit
theorem qsT:(prog.info? 5).map (fun i=>(i.zero,i.size,i.bytes))=some (some (.int .u8 0),1,1):=by kernel_rfl
theorem qvO(n:Int):∀u∈#[Value.int .u8 n].toList,u.oneCell'=true:=by
 intro u hu;simp at hu;subst hu;rfl
section
variable{w:World}(W:World){ops:Array Oper}{rest:List Oper}{o:Oper}{a:Act}{Q:Exit→Act→World→Prop}
theorem mkB(d:Region.wanted o (yielded ops a.tmps)=true)(l c:Operand)(b:o.op=Op.makeSlice 48 l c)(e:Ext W w)
 (C:Int) (n:Nat) (hl:a.eval l= .int .i64 0) (f:a.eval c= .int .i64 C) (g:C=(n:Int)) (hn:n≤281474976710656)
 (hK:∀A' w',w'.ownsRow W.heap.size 5 1 (.slice A' 0 n) 0 []→Ext W w'→wpList prog ops Q rest (a.put o.dst (.slice A' 0 n)) w'):wpList prog ops Q (o::rest) a w:=
 qrK W d l c _ b _ _ _ _ underlying48 qsT e .i64 .i64 C n hl f g oa oa hK
theorem appB(d:Region.wanted o (yielded ops a.tmps)=true)(s x:Operand)(e:o.op= .call {callee:=.builtin .append,args:=#[s,x],argTypes:=#[48,48]})
 (f:Ext W w) (v:Value) (n:Nat) (xs:List Value) (hs:a.eval s=v) (b:w.ownsRow W.heap.size 5 1 v n xs)
 (A:Option Addr) (m c:Nat) (news:List Value) (g:a.eval x= .slice A m c) (hr:Rd w A news) (hm:news.length=m) (j:∀u∈news,u.oneCell'=true) (hb:n+m≤140737488355328)
 (h:∀A' c' w',w'.ownsRow W.heap.size 5 1 (.slice A' (n+m) c') (n+m) (xs++news)→Ext W w'→wpList prog ops Q rest (a.put o.dst (.slice A' (n+m) c')) w'):wpList prog ops Q (o::rest) a w:=
 qsZ W d s x _ e _ _ 1 1 underlying48 qsT rfl oa f v n xs hs b A m c news g hr oa j oa oa h
theorem appS(e:Region.wanted o (yielded ops a.tmps)=true)(s x:Operand)(l:o.op= .call {callee:=.builtin .append,args:=#[s,x],argTypes:=#[48,9]})
 (g:Ext W w) (v:Value) (n:Nat) (xs:List Value) (hs:a.eval s=v) (b:w.ownsRow W.heap.size 5 1 v n xs)
 (t:ByteArray) (m:a.eval x= .string t) (hb:n+t.size≤140737488355328)
 (h:∀A' c' w',w'.ownsRow W.heap.size 5 1 (.slice A' (n+t.size) c') (n+t.size) (xs++t.data.toList.map bv)→Ext W w'→wpList prog ops Q rest (a.put o.dst (.slice A' (n+t.size) c')) w'):wpList prog ops Q (o::rest) a w:=by
 obtain⟨i,hi,p,c,f⟩:=info_parts qsT;refine qi5 e fun K hK=>?_;obtain⟨r,w',d,j,q,_⟩:=Lib.run_append_own_string (P:=prog) w W.heap.size _ _ o.type _ i underlying48 underlying9 hi p c f v n xs b t (by unfold maxLen;omega) hb g.size;obtain⟨A',c',rfl⟩:=qnD j;unfold Oper.wp execOp;simp only[l,resolve,invoke,builtin,Sem.run_bind,Sem.run_pure,Result.andThen_ok,vF,jm,jU,hs,m,d];exact hK _ _ (h A' c' w' j (g.gr b (jf _) q))
end
theorem qxU{bs:List UInt8}{k:Nat}(h:k<bs.length):∃x,bs.drop k=x::bs.drop (k+1)∧(bs.map bv)[k]? =some (.int .u8 (x.toNat:Int)):=
 ⟨bs[k],vX h,by simp[h,bv]⟩
theorem and127:∀x:Fin 256,(x.val&&&127)=x.val%128:=by decide+kernel
theorem and128:∀x:Fin 256,(x.val&&&128)=if x.val<128 then 0 else 128:=by decide+kernel
theorem qxm{x:Nat}(h:x<256):(bits .and .u8 (x:Int) 128==0)=decide (x<128):=by
 rw[show(128:Int)=((128:Nat):Int) by rfl,u8_and_nat _ _ h oa,and128 ⟨x,h⟩];by_cases b:x<128<;>simp[b]
theorem qCU{acc k x:Nat}(d:acc<128^k)(f:k≤9)(g:k=9→x≤1)(h:x<256):
 bits .or .u64 (acc:Int) (IntKind.u64.wrap (IntKind.u64.wrap (bits .and .u8 (x:Int) 127)*2^(7*k)))=((acc+128^k*(x%128):Nat):Int):=by
 rw[show(127:Int)=((127:Nat):Int) by rfl,u8_and_nat _ _ h oa,and127 ⟨x,h⟩];have e:(128:Nat)^k=2^(7*k):=by rw[show(128:Nat)=2^7 by rfl,←Nat.pow_mul]
 have j:IntKind.u64.wrap ((x%128:Nat):Int)=((x%128:Nat):Int):=by rw[IntKind.wrap_u64];omega
 have q:128^k≤128^9:=Nat.pow_le_pow_right oa f;have hm:128^k*(x%128)+128^k≤18446744073709551616:=by
  rcases Jj k 9 with c|c
  have l:128^k≤128^8:=Nat.pow_le_pow_right oa oa;have m:128^k*(x%128)≤128^8*127:=Nat.mul_le_mul l oa;omega;obtain rfl:k=9:=by omega
  have:=g rfl;have m:128^9*(x%128)≤128^9*1:=JO _ oa;omega
 have n:((x%128:Nat):Int)*2^(7*k)=((128^k*(x%128):Nat):Int):=by
  rw[e,Jy,Int.natCast_pow,Int.mul_comm];rfl
 have p:IntKind.u64.wrap ((128^k*(x%128):Nat):Int)=((128^k*(x%128):Nat):Int):=by
  have b:0<128^k:=Nat.pow_pos oa;rw[IntKind.wrap_u64];omega
 have b:0<128^k:=Nat.pow_pos oa;rw[j,n,p,u64_or_nat _ _ oa oa];rw[e]at d⊢;rw[Nat.or_comm,←Nat.two_pow_add_eq_or_of_lt d,Nat.add_comm]
def rawV(at_:Nat)(r:Nat×Nat×Nat):Value:=.tuple #[.int .u64 (r.1:Nat),.int .i64 ((if r.2.2=0 then at_+r.2.1 else 0:Nat):Int),.int .i64 (r.2.2:Nat)]
def yM(w:World)(at_:Nat)(r:Nat×Nat×Nat)(e:Ending)(w':World):Prop:=e= .returned (rawV at_ r)∧w=w'
theorem yM.mk{w:World}{at_:Nat}{r:Nat×Nat×Nat}{u n e:Int}(b:u=(r.1:Nat))(c:n=((if r.2.2=0 then at_+r.2.1 else 0:Nat):Int))(d:e=(r.2.2:Nat)):
 yM w at_ r (.returned (.tuple #[.int .u64 u,.int .i64 n,.int .i64 e])) w:=by
 subst b c d;exact⟨rfl,rfl⟩
set_option maxRecDepth 100000 in
theorem qAu(A:Option Addr)(c:Nat)(bs:List UInt8)(at_:Nat)(w:World)(r:Rd w A (bs.map bv))(hlen:bs.length≤1000000000)(G:at_≤bs.length):
 Calls prog 203 #[.slice A bs.length c,.int .i64 (at_:Int)] w (yM w at_ (zZ 0 (bs.drop at_))):=by
 go_enter func203,Tryz.ntmps203
 go_wp2
 go_loop [4,7,8,9] (fun v4 _ _ v9=>∃(k acc:Nat),v9= .int .i64 (k:Int)∧k≤9∧at_+k≤bs.length∧v4= .int .u64 (acc:Int)∧Hid (acc<128^k)∧Hid (accM acc k (zZ k (bs.drop (at_+k)))=zZ 0 (bs.drop at_)))
  (fun _ _ _ v9=>10-(intOf v9).toNat)
 case atStart=>exact⟨0,0,rfl,by omega,by omega,rfl,by exact Lib.hid oa,qwu _⟩
 case round=>
  obtain⟨k,acc,rfl,B,C,rfl,l,hinv⟩:=hrel;by_cases hl:at_+k=bs.length
  · have hb:((at_:Int)+(k:Int)==(bs.length:Int))=true:=by simp;omega
    have g:Hid (zZ 0 (bs.drop at_)=(0,0,4)):=by
     rw[←hinv.out,vo oa];exact Lib.hid rfl
    go_wp2
    go_ret3
    rw[g.out];exact yM.mk rfl rfl rfl
  · have hb:((at_:Int)+(k:Int)==(bs.length:Int))=false:=by simp;omega
    obtain⟨x,v,p⟩:=qxU (bs:=bs) (k:=at_+k) oa;obtain⟨ad,rfl,H⟩:=r.at_ p;rw[v]at hinv;clear v p;have d:=UInt8.toNat_lt x;have e:=qxm d;by_cases b:k=9∧1<x.toNat
    · have g:Hid (zZ 0 (bs.drop at_)=(0,0,3)):=by
       rw[←hinv.out,qjC,if_pos b];exact Lib.hid rfl
      have f:((k:Int)==9)=true:=by simp;omega
      have z:=b.2;clear b e
      go_wp2
      go_ret3
      rw[g.out];exact yM.mk rfl rfl rfl
    · have q:=Lib.hid (qCU (x:=x.toNat) l.out B (fun h=>by omega) d)
      by_cases j:x.toNat<128
      · have E:x.toNat%128=x.toNat:=by omega
        rw[E]at q;rw[show decide (x.toNat<128)=true by simpa using j]at e;by_cases m:0<k∧x.toNat=0
        · have g:Hid (zZ 0 (bs.drop at_)=(0,0,3)):=by
           rw[←hinv.out,qjC,if_neg b,if_pos j,if_pos m];exact Lib.hid rfl
          have n:((x.toNat:Int)==0)=true:=by simp;omega
          have F:=m.1;by_cases t:k=9
          · have f:((k:Int)==9)=true:=by simp;omega
            have z:x.toNat≤1:=by omega
            clear m t b
            go_wp2
            go_ret3
            rw[g.out];exact yM.mk rfl rfl rfl
          · have f:((k:Int)==9)=false:=by simp;omega
            clear m
            go_wp2
            go_ret3
            rw[g.out];exact yM.mk rfl rfl rfl
        · have g:Hid (zZ 0 (bs.drop at_)=(acc+128^k*x.toNat,k+1,0)):=by
           rw[←hinv.out,qjC,if_neg b,if_pos j,if_neg m];exact Lib.hid rfl
          have n:0<k→((x.toNat:Int)==0)=false:=by intro h;simp;omega
          by_cases t:k=9
          · have f:((k:Int)==9)=true:=by simp;omega
            have n:=n oa;have F:0<k:=by omega
            have z:x.toNat≤1:=by omega
            clear m t b
            go_wp2
            go_ret3
            rw[g.out,q.out];exact yM.mk rfl oe rfl
          · have f:((k:Int)==9)=false:=by simp;omega
            clear m
            go_wp2
            all_goals
             go_ret3
             rw[g.out,q.out];exact yM.mk rfl oe rfl
      · rw[show decide (x.toNat<128)=false by simpa using j]at e
        have u:k<9:=by omega
        rw[qw0 u oa]at hinv;have f:((k:Int)==9)=false:=by simp;omega
        go_wp2
        go_round
        case rel=>
         refine⟨k+1,acc+128^k*(x.toNat-128),by go_num,by omega,by omega,by rw[q.out,show x.toNat%128=x.toNat-128 by omega],?_,hinv⟩;have I:=l.out;have J:128^k*(x.toNat-128)+128^k≤128^k*128:=by
          rw[←Nat.mul_succ];exact JO _ oa
         exact Lib.hid (by rw[Nat.pow_succ];omega)
        case measure=>simp[intOf];omega
theorem qwz{P:Program}(w:World)(src dst e:TypeId)(hs:P.underlying src=some (.slice e))(he:P.underlying e=some (.int .u8))(hd:P.underlying dst=some .string)
 (A:Option Addr) (n c:Nat) (bs:List UInt8) (hr:Rd w A (bs.map bv)) (hn:bs.length=n):(convert src dst (.slice A n c)).run P w= .ok (.string ⟨bs.toArray⟩) w:=by
 subst hn;rcases hr with h|⟨ad,rfl,b⟩
 · have d:bs=[]:=by simpa using h
   subst d;rw[run_convert_bytes_string w src dst e _ _ c hs he hd];cases A<;>simp[Conv.bytesToString,loadCells]
   all_goals rfl
 · exact run_convert_bytes_back w src dst e ad c bs hs he hd fun j f=>b j _ (by simp[f,bv])
def Same(w:World)(v:Value)(e:Ending)(w':World):Prop:=e= .returned v∧w=w'
theorem Same.mk{w:World}{v b:Value}(h:v=b):Same w b (.returned v) w:=⟨by rw[h],rfl⟩
def yh(bs:List UInt8)(at_ lo hi:Int):Int×Int×Int:=if at_<0∨(bs.length:Int)<at_∨hi<lo then(0,0,2)else if(zZ 0 (bs.drop at_.toNat)).2.2≠0 then(0,0,((zZ 0 (bs.drop at_.toNat)).2.2:Nat))else if zag (zZ 0 (bs.drop at_.toNat)).1<lo∨hi<zag (zZ 0 (bs.drop at_.toNat)).1 then(0,0,5)else(zag (zZ 0 (bs.drop at_.toNat)).1,at_+((zZ 0 (bs.drop at_.toNat)).2.1:Nat),0)
def tri(r:Int×Int×Int):Value:=.tuple #[.int .i64 r.1,.int .i64 r.2.1,.int .i64 r.2.2]
theorem qnK{r:Int×Int×Int}{a b c:Int}(h:r=(a,b,c)):Value.tuple #[.int .i64 a,.int .i64 b,.int .i64 c]=tri r:=by subst h;rfl
theorem qss(a:Int)(b:0≤a)(c:a<9223372036854775808):bits .xor .i64 a (-1)= -a-1:=by
 obtain⟨n,rfl⟩:=Jl b;show IntKind.i64.wrap ((BitVec.ofInt 64 (n:Int)^^^BitVec.ofInt 64 (-1)).toNat:Int)=_;have hm:BitVec.ofInt 64 (-1)=BitVec.allOnes 64:=by decide+kernel
 rw[hm,BitVec.xor_allOnes,BitVec.toNat_not,BitVec.ofInt_natCast,BitVec.toNat_ofNat,Jz oa,IntKind.wrap_i64];omega
theorem qq0(a:Int)(b:0≤a)(c:a<9223372036854775808):bits .xor .i64 a 0=a:=by
 obtain⟨n,rfl⟩:=Jl b;show IntKind.i64.wrap ((BitVec.ofInt 64 (n:Int)^^^BitVec.ofInt 64 0).toNat:Int)=_;have hm:BitVec.ofInt 64 0=0#64:=by decide+kernel
 rw[hm,BitVec.xor_zero,BitVec.ofInt_natCast,BitVec.toNat_ofNat,Jz oa,IntKind.wrap_i64];omega
theorem qBn{u:Nat}(h:u<18446744073709551616):bits .xor .i64 (wrap64 ((u:Int)/2)) (wrap64 (-wrap64 (bits .and .u64 (u:Int) 1)))=zag u:=by
 rw[show(1:Int)=((1:Nat):Int) by rfl,u64_and_nat _ _ h oa,Nat.and_one_is_mod];have hw:∀a:Int,-9223372036854775808≤a→a<9223372036854775808→wrap64 a=a:=fun a c b=>by unfold wrap64;omega
 rw[hw _ oa oa,hw ((u%2:Nat):Int) oa oa,hw _ oa oa];unfold zag;by_cases b:u%2=0;rw[b,if_pos rfl];show bits .xor .i64 _ 0=_;rw[qq0 _ oa oa];omega;rw[if_neg b,show u%2=1 by omega];show bits .xor .i64 _ (-1)=_;rw[qss _ oa oa];omega
theorem qvX(l:List UInt8)(h:(zZ 0 l).2.2=0):(zZ 0 l).1<18446744073709551616:=by
 have:=(quL 0 l oa h).1;simpa using this
set_option maxRecDepth 100000 in
theorem qxe(A:Option Addr)(c:Nat)(bs:List UInt8)(at_ lo hi:Int)(w:World)(g:Rd w A (bs.map bv))(hlen:bs.length≤1000000000):
 Calls prog 117 #[.slice A bs.length c,.int .i64 at_,.int .i64 lo,.int .i64 hi] w (Same w (tri (yh bs at_ lo hi))):=by
 by_cases h:at_<0
 · have d:Hid (yh bs at_ lo hi=(0,0,2)):=by unfold yh;rw[if_pos (.inl h)];exact Lib.hid rfl
   go_enter func117,Tryz.ntmps117
   go_wp2
   go_ret3
   exact Same.mk (qnK d.out)
 by_cases j:(bs.length:Int)<at_
 · have d:Hid (yh bs at_ lo hi=(0,0,2)):=by unfold yh;rw[if_pos (.inr (.inl j))];exact Lib.hid rfl
   go_enter func117,Tryz.ntmps117
   go_wp2
   go_ret3
   exact Same.mk (qnK d.out)
 by_cases l:hi<lo
 · have d:Hid (yh bs at_ lo hi=(0,0,2)):=by unfold yh;rw[if_pos (.inr (.inr l))];exact Lib.hid rfl
   go_enter func117,Tryz.ntmps117
   go_wp2
   go_ret3
   exact Same.mk (qnK d.out)
 obtain⟨n,rfl⟩:=Jl (show 0≤at_ by omega);have d:Hid (yh bs n lo hi=if(zZ 0 (bs.drop n)).2.2≠0 then((0:Int),(0:Int),(((zZ 0 (bs.drop n)).2.2:Nat):Int))
  else if zag (zZ 0 (bs.drop n)).1<lo∨hi<zag (zZ 0 (bs.drop n)).1 then(0,0,5)
  else(zag (zZ 0 (bs.drop n)).1,(n:Int)+(((zZ 0 (bs.drop n)).2.1:Nat):Int),0)):=by
  unfold yh;rw[if_neg oa];exact Lib.hid rfl
 have hR:=qAu A c bs n w g hlen oa;have hlt:=qvX (bs.drop n);rcases hr:zZ 0 (bs.drop n)with⟨u,m,e⟩
 rw[hr]at d hR hlt;clear hr;simp only at d hlt;have f:=zH hR;clear hR;by_cases he:e=0
 · subst he
   have r:=qBn (hlt rfl);have t:=Lib.hid (hlt rfl);clear hlt;by_cases p:zag u<lo
   · have b:Hid (yh bs n lo hi=(0,0,5)):=by rw[d.out,if_neg og,if_pos (.inl p)];exact Lib.hid rfl
     go_enter func117,Tryz.ntmps117
     go_wp2_with fail
     refine(za f).mono ?_;rintro e w1 ⟨rfl,rfl⟩;simp only[rawV]
     go_wp2
     go_ret3
     exact Same.mk (qnK b.out)
   · by_cases q:hi<zag u
     · have b:Hid (yh bs n lo hi=(0,0,5)):=by rw[d.out,if_neg og,if_pos (.inr q)];exact Lib.hid rfl
       go_enter func117,Tryz.ntmps117
       go_wp2_with fail
       refine(za f).mono ?_;rintro e w1 ⟨rfl,rfl⟩;simp only[rawV]
       go_wp2
       go_ret3
       exact Same.mk (qnK b.out)
     · have b:Hid (yh bs n lo hi=(zag u,(n:Int)+((m:Nat):Int),0)):=by rw[d.out,if_neg og,if_neg oa];exact Lib.hid rfl
       go_enter func117,Tryz.ntmps117
       go_wp2_with fail
       refine(za f).mono ?_;rintro e w1 ⟨rfl,rfl⟩;simp only[rawV]
       go_wp2
       go_ret3
       exact Same.mk (qnK (by rw[b.out]))
 · have b:Hid (yh bs n lo hi=(0,0,((e:Nat):Int))):=by rw[d.out,if_pos he];exact Lib.hid rfl
   have hb:((e:Int) !=0)=true:=by simp;omega
   clear hlt
   go_enter func117,Tryz.ntmps117
   go_wp2_with fail
   refine(za f).mono ?_;rintro e w1 ⟨rfl,rfl⟩;simp only[rawV]
   go_wp2
   go_ret3
   exact Same.mk (qnK (by rw[b.out]))
theorem qs8{bs:List UInt8}{at_ lo hi n next:Int}(h:yh bs at_ lo hi=(n,next,0)):
 0≤at_∧at_<next∧next≤bs.length∧lo≤n∧n≤hi∧-9223372036854775808≤n∧n<9223372036854775808∧(bs.drop at_.toNat).take (next.toNat-at_.toNat)=enc (zig n)∧(next.toNat-at_.toNat)=(enc (zig n)).length:=by
 unfold yh at h;split at h
 · simp at h
 · rename_i e
   split at h
   · rename_i b;simp at h;omega
   · rename_i b
     have b:(zZ 0 (bs.drop at_.toNat)).2.2=0:=by simpa using b
     split at h
     · simp at h
     · rename_i f
       simp only[Prod.mk.injEq]at h;obtain⟨c,g,_⟩:=h;have hr:=quL 0 _ oa b;have hlt:=qvX _ b;have j:=qBs hlt;have l:=qAi (zZ 0 (bs.drop at_.toNat)).1;have hl:=hr.2.2.2.1;rw[j4]at hl;have hm:=hr.2.2.1;rw[←c,qAG];have d:next.toNat-at_.toNat=(zZ 0 (bs.drop at_.toNat)).2.1:=by omega
       rw[d];refine⟨by omega,by omega,by omega,by omega,by omega,by omega,by omega,hr.2.1,hr.2.2.1⟩
theorem qyK{bs:List UInt8}{at_ lo hi n next e:Int}(h:yh bs at_ lo hi=(n,next,e))(he:e≠0):n=0∧next=0:=by
 unfold yh at h;split at h
 simp at h;omega;split at h
 simp at h;omega;split at h
 simp at h;omega;simp only[Prod.mk.injEq]at h;omega
def yu(bs:List UInt8)(at_ b:Int):List UInt8×Int×Int:=if b<0 then([],0,2)else if(yh bs at_ 0 b).2.2≠0 then([],0,(yh bs at_ 0 b).2.2)else if(bs.length:Int)-(yh bs at_ 0 b).2.1<(yh bs at_ 0 b).1 then([],0,4)else((bs.drop (yh bs at_ 0 b).2.1.toNat).take (yh bs at_ 0 b).1.toNat,(yh bs at_ 0 b).2.1+(yh bs at_ 0 b).1,0)
def triS(r:List UInt8×Int×Int):Value:=.tuple #[.string ⟨r.1.toArray⟩,.int .i64 r.2.1,.int .i64 r.2.2]
theorem qqn{r:List UInt8×Int×Int}{s:ByteArray}{a:List UInt8}{b c:Int}(h:r=(a,b,c))(hs:s=⟨a.toArray⟩):Value.tuple #[.string s,.int .i64 b,.int .i64 c]=triS r:=by subst h hs;rfl
set_option maxRecDepth 100000 in
theorem qye(A:Option Addr)(c:Nat)(bs:List UInt8)(at_ b:Int)(w:World)(g:Rd w A (bs.map bv))(hlen:bs.length≤1000000000)(h:bs.length≤c):
 Calls prog 132 #[.slice A bs.length c,.int .i64 at_,.int .i64 b] w (Same w (triS (yu bs at_ b))):=by
 by_cases l:b<0
 · have f:Hid (yu bs at_ b=([],0,2)):=by unfold yu;rw[if_pos l];exact Lib.hid rfl
   go_enter func132,Tryz.ntmps132
   go_wp2
   go_ret3
   exact Same.mk (qqn f.out rfl)
 have j:=zH (qxe A c bs at_ 0 b w g hlen);have f:Hid (yu bs at_ b=if(yh bs at_ 0 b).2.2≠0 then([],0,(yh bs at_ 0 b).2.2)
  else if(bs.length:Int)-(yh bs at_ 0 b).2.1<(yh bs at_ 0 b).1 then([],0,4)
  else((bs.drop (yh bs at_ 0 b).2.1.toNat).take (yh bs at_ 0 b).1.toNat,(yh bs at_ 0 b).2.1+(yh bs at_ 0 b).1,0)):=by
  unfold yu;rw[if_neg l];exact Lib.hid rfl
 rcases hr:yh bs at_ 0 b with⟨n,next,e⟩
 rw[hr]at f j;have t:=Lib.hid hr;clear hr;simp only at f;by_cases he:e=0
 · subst he
   obtain⟨x,z,B,u,C,-⟩:=qs8 t.out;obtain⟨q,rfl⟩:=Jl (show 0≤next by omega);obtain⟨m,rfl⟩:=Jl u;by_cases p:(bs.length:Int)-(q:Int)<(m:Int)
   · have d:Hid (yu bs at_ b=([],0,4)):=by rw[f.out,if_neg og,if_pos p];exact Lib.hid rfl
     go_enter func132,Tryz.ntmps132
     go_wp2_with fail
     refine(za j).mono ?_;rintro e w1 ⟨rfl,rfl⟩;simp only[tri]
     go_wp2
     go_ret3
     exact Same.mk (qqn d.out rfl)
   · have d:Hid (yu bs at_ b=((bs.drop q).take m,(q:Int)+(m:Int),0)):=by rw[f.out,if_neg og,if_neg p];exact Lib.hid rfl
     go_enter func132,Tryz.ntmps132
     go_wp2_with fail
     refine(za j).mono ?_;rintro e w1 ⟨rfl,rfl⟩;simp only[tri]
     go_wp2_with (with_reducible refine qx8 36 rfl ?_)
     refine qqB (qvd _ rfl _ _ _ _ rfl _ 1 underlying48 ob A bs.length c q (q+m) rfl (.inl ⟨rfl,rfl⟩) (.inl ⟨rfl,by omega⟩) oa oa ?_);have r:=((g.sub (c:=c) (s:=1) q (by simpa using h)).take m)
     rw[Nat.mul_one,←JA,←vZ]at r;have v:=qwz (P:=prog) w _ _ _ underlying48 underlying5 underlying9 _ m (c-q) _ r (by rw[jA,j4];omega)
     go_wp2
     go_ret3
     exact Same.mk (qqn d.out rfl)
 · have d:Hid (yu bs at_ b=([],0,e)):=by rw[f.out,if_pos he];exact Lib.hid rfl
   have hb:(e !=0)=true:=by simpa using he
   clear he
   go_enter func132,Tryz.ntmps132
   go_wp2_with fail
   refine(za j).mono ?_;rintro e w1 ⟨rfl,rfl⟩;simp only[tri]
   go_wp2
   go_ret3
   exact Same.mk (qqn d.out rfl)
theorem qrR(x:Nat)(h:x<18446744073709551616):x^^^18446744073709551615=18446744073709551615-x:=by
 have b:(BitVec.ofNat 64 x^^^BitVec.allOnes 64).toNat=18446744073709551615-x:=by
  rw[BitVec.xor_allOnes,BitVec.toNat_not,BitVec.toNat_ofNat,Jz oa]
 rw[BitVec.toNat_xor,BitVec.toNat_ofNat,BitVec.toNat_allOnes,Jz oa]at b;exact b
theorem qB8(k:Int)(b: -9223372036854775808≤k)(c:k<9223372036854775808):
 bits .xor .u64 (IntKind.u64.wrap (IntKind.u64.wrap k*2)) (IntKind.u64.wrap (k/9223372036854775808))=((zig k:Nat):Int):=by
 rw[IntKind.wrap_u64,IntKind.wrap_u64,IntKind.wrap_u64];unfold zig;by_cases h:0≤k
 · rw[if_pos h]
   obtain⟨n,rfl⟩:=Jl h;rw[show((n:Int)/9223372036854775808%18446744073709551616)=((0:Nat):Int) by omega,show(n:Int)%18446744073709551616*2%18446744073709551616=((2*n:Nat):Int) by omega];rw[bits_xor_u64_nat _ _ oa oa,Nat.xor_zero];omega
 · rw[if_neg h]
   rw[show(k/9223372036854775808%18446744073709551616)=((18446744073709551615:Nat):Int) by omega,show k%18446744073709551616*2%18446744073709551616=((18446744073709551616-(-2*k).toNat:Nat):Int) by omega];rw[bits_xor_u64_nat _ _ oa oa,qrR _ oa];omega
theorem or128:∀x:Fin 256,(x.val|||128)=x.val%128+128:=by decide+kernel
theorem qDo(u:Nat):bits .or .u8 ((u:Int)%256) 128=(((UInt8.ofNat (u%128+128)).toNat:Nat):Int):=by
 rw[show((u:Int)%256)=((u%256:Nat):Int) by omega,show(128:Int)=((128:Nat):Int) by rfl,u8_or_nat _ _ oa oa,or128 ⟨u%256,by omega⟩];simp only[UInt8.toNat_ofNat'];omega
theorem qA0{u:Nat}(h:u<128):(u:Int)=(((UInt8.ofNat u).toNat:Nat):Int):=by
 simp only[UInt8.toNat_ofNat'];omega
def y9(W:World)(all:List UInt8)(v5 v6:Value)(wr:World):Prop:= ∃(ys:List UInt8)(u:Nat)(A':Option Addr)(c':Nat),v5= .slice A' ys.length c'∧v6= .int .u64 (u:Int)∧Hid (u<18446744073709551616)∧Hid (ys++enc u=all)∧Hid (ys.length≤all.length)∧ wr.ownsRow W.heap.size 5 1 (.slice A' ys.length c') ys.length (ys.map bv)∧Ext W wr
theorem y9.mk{W wr:World}{all ys:List UInt8}{u:Nat}{A':Option Addr}{c':Nat}(hu:u<18446744073709551616)(h:ys++enc u=all)
 (b:wr.ownsRow W.heap.size 5 1 (.slice A' ys.length c') ys.length (ys.map bv)) (he:Ext W wr):y9 W all (.slice A' ys.length c') (.int .u64 (u:Int)) wr:=
 ⟨ys,u,A',c',rfl,rfl,hu,h,by have:=congrArg List.length h;simp only[ja]at this;exact Lib.hid oa,b,he⟩
theorem y9.next{W wr:World}{all ys:List UInt8}{u:Nat}{A':Option Addr}{c':Nat}(hb:128≤u)(hu:u<18446744073709551616)(h:ys++enc u=all)
 (b:wr.ownsRow W.heap.size 5 1 (.slice A' (ys.length+1) c') (ys.length+1) (ys.map bv++[.int .u8 ((UInt8.ofNat (u%128+128)).toNat:Int)])) (he:Ext W wr):y9 W all (.slice A' (ys.length+1) c') (.int .u64 ((u:Int)/128)) wr:=by
 have:=y9.mk (W:=W) (wr:=wr) (all:=all) (ys:=ys++[UInt8.ofNat (u%128+128)]) (u:=u/128) (A':=A') (c':=c') oa (by rw[←h,qn6 hb];simp) (by simpa[bv]using b) he;simpa using this
theorem y9.done{W wr:World}{all ys:List UInt8}{u:Nat}{A':Option Addr}{c':Nat}(hb:u<128)(h:ys++enc u=all)
 (b:wr.ownsRow W.heap.size 5 1 (.slice A' (ys.length+1) c') (ys.length+1) (ys.map bv++[.int .u8 (u:Int)])):IsB W.heap.size all (.slice A' (ys.length+1) c') wr:=by
 rw[qfz hb]at h;subst h;rw[qA0 hb]at b;exact IsB.mk b (by simp[bv]) og
set_option maxRecDepth 100000 in
theorem qoY(A:Option Addr)(c:Nat)(bs:List UInt8)(k:Int)(w:World)(p:Rd w A (bs.map bv))(hlen:bs.length≤1000000000)(g: -9223372036854775808≤k)(h:k<9223372036854775808):
 Calls prog 123 #[.slice A bs.length c,.int .i64 k] w (Ret w (IsB w.heap.size (bs++enc (zig k)))):=by
 have q:=qt4 g h;have r:=qng q
 go_enter func123,Tryz.ntmps123
 go_wp2_with (first|(at_make;refine qfa ?_)|(at_builtin;refine qfa ?_))
 refine qqB (mkB w rfl _ _ rfl (Ext.rfl' w) _ (bs.length+10) rfl rfl oa oa ?_);intro C w1 f j
 go_wp2_with (first|(at_make;refine qfa ?_)|(at_builtin;refine qfa ?_))
 refine qqB (appB w rfl _ _ rfl j _ _ _ rfl f A bs.length c (bs.map bv) rfl (p.ext j) og (qzA _) oa ?_);intro E F G d m;clear f j
 go_wp2
 rw[qB8 k g h];have t:=Lib.hid q;clear q g h;simp only[jc,jq]at d
 go_loopw [5,6] (y9 w (bs++enc (zig k))) (fun _ v6 _=>(intOf v6).toNat)
 case atStart=>exact y9.mk t.out rfl d m
 case round=>
  clear d m;obtain⟨ys,u,A',c',rfl,rfl,hu,n,hl,e,he⟩:=hrel;have v:ys.length≤bs.length+10:=by have:=hl.out;simp only[ja]at this;omega
  by_cases hb:128≤u
  · go_wp2_with (first|(at_make;refine qfa ?_)|(at_builtin;refine qfa ?_))
    refine qqB (appB w rfl _ _ rfl (he.al _) _ _ _ rfl (e.alloc _) _ 1 1 _ rfl (Rd.new _ _ _) rfl (qvO _) oa ?_);intro x z B b l;rw[qDo]at b;clear e he
    go_wp2
    go_roundw
    case rel=>exact y9.next hb hu.out n.out b l
    case measure=>simp[intOf];omega
  · go_wp2_with (first|(at_make;refine qfa ?_)|(at_builtin;refine qfa ?_))
    refine qqB (appB w rfl _ _ rfl (he.al _) _ _ _ rfl (e.alloc _) _ 1 1 _ rfl (Rd.new _ _ _) rfl (qvO _) oa ?_);intro x z B b l;clear e he
    go_wp2
    go_ret
    exact Ret.mk (y9.done oa n.out b) l
theorem qsB(A:Option Addr)(c:Nat)(bs:List UInt8)(s:ByteArray)(w:World)(g:Rd w A (bs.map bv))(hlen:bs.length≤1000000000)(hs:s.size≤1000000000):
 Calls prog 135 #[.slice A bs.length c,.string s] w (Ret w (IsB w.heap.size (bs++(enc (zig s.size)++s.data.toList)))):=by
 have j:(enc (zig s.size)).length≤10:=qng (qt4 oa oa)
 go_enter func135,Tryz.ntmps135
 go_wp2_with fail
 refine(qoY A c bs _ _ g hlen oa oa).mono ?_;rintro e w1 ⟨v,rfl,m,he⟩;obtain⟨n,p,rfl,b⟩:=m.own;have q:(bs++enc (zig s.size)).length≤bs.length+10:=by simp only[ja];omega
 generalize f:bs++enc (zig s.size)=ys at*;have l:=Lib.hid f;clear f
 go_wp2_with (first|(at_make;refine qfa ?_)|(at_builtin;refine qfa ?_))
 refine qqB (appS w rfl _ _ rfl he _ _ _ rfl b s rfl oa ?_);intro r t u d h;clear b he
 go_wp2
 go_ret
 exact Ret.mk (IsB.mk d (by rw[←jo,l.out];simp) (by rw[←jo,l.out,ja,j8];rfl)) h
theorem qtt(A:Option Addr)(c:Nat)(bs:List UInt8)(x:Bool)(w:World)(g:Rd w A (bs.map bv))(hlen:bs.length≤1000000000):
 Calls prog 56 #[.slice A bs.length c,.bool x] w (Ret w (IsB w.heap.size (bs++[if x then 1 else 0]))):=by
 cases x;all_goals
  go_enter func56,Tryz.ntmps56
  go_wp2_with (first|(at_make;refine qfa ?_)|(at_builtin;refine qfa ?_))
  refine qqB (mkB w rfl _ _ rfl (Ext.rfl' w) _ (bs.length+1) rfl rfl oa oa ?_);intro j w1 b e
  go_wp2_with (first|(at_make;refine qfa ?_)|(at_builtin;refine qfa ?_))
  refine qqB (appB w rfl _ _ rfl e _ _ _ rfl b A bs.length c (bs.map bv) rfl (g.ext e) og (qzA _) oa ?_);intro l m n d he;simp only[jc,jq]at d;clear b e
  go_wp2_with (first|(at_make;refine qfa ?_)|(at_builtin;refine qfa ?_))
  refine qqB (appB w rfl _ _ rfl (he.al _) _ _ _ rfl (d.alloc _) _ 1 1 _ rfl (Rd.new _ _ _) rfl (qvO _) oa ?_);intro p q r f h;clear d he
  go_wp2
  go_ret
  exact Ret.mk (IsB.mk f (by simp[bv]) og) h
inductive D where
 |bool (b:Bool)
 |int (k:IntKind) (n:Int)
 |str (s:ByteArray)
 |lst (l:List D)
 |full (l:List D)
 |own (u:Value) (l:List D)
 |agg (fs:List D)
 |ptr (d:D)
 |ref (b off:Nat) (path:List Nat)
 |mref (b i s off:Nat) (path:List Nat)
 |arr (b s lo n:Nat)
 |vec (u:Value) (n:Nat)
 |clo (fn:Fn) (first cap:List D)
 |nilf
 |nilm
 |nilp
 |stm (n:Int)
 |map (r:Nat)
 |ifc (t:TypeId) (d:D)
 |nili
 |tup (ds:List D)
 |undef
def RdP(p:Addr→Prop)(w:World)(A:Option Addr)(xs:List Value):Prop:=xs=[]∨∃b o,A=some ⟨b,o,none⟩∧∀j u,xs[j]? =some u→p ⟨b,o+j,none⟩∧w.cell? ⟨b,o+j,none⟩=some u
mutual
def Rep(p:Addr→Prop)(w:World):D→Value→Prop |.bool b,v=>v= .bool b |.int k n,v=>v= .int k n∧k.wrap n=n |.str s,v=>v= .string s∧s.size≤9223372036854775807 |.lst l,v=>∃A c xs,v= .slice A l.length c∧l.length≤c∧c≤9223372036854775807∧RdP p w A xs∧zj p w l xs∧∀u∈xs,u.oneCell'=true |.full l,v=>∃A xs,v= .slice A l.length l.length∧l.length≤9223372036854775807∧RdP p w A xs∧zj p w l xs∧∀u∈xs,u.oneCell'=true |.own u l,v=>v=u∧∃A c xs,u= .slice A l.length c∧l.length≤c∧c≤9223372036854775807∧RdP p w A xs∧zj p w l xs∧∀u∈xs,u.oneCell'=true |.agg e,v=>∃cs,v= .agg cs.toArray∧zj p w e cs∧∀u∈cs,u.oneCell'=true |.ptr d,v=>∃b o u,v= .pointer (some ⟨b,o,none⟩)∧RdP p w (some ⟨b,o,none⟩) u.cells.toList∧Rep p w d u∧∀x∈u.cells.toList,x.oneCell'=true |.ref b off _,v=>v= .pointer (some ⟨b,off,none⟩) |.mref b i s off _,v=>v= .pointer (some ⟨b,i*s+off,none⟩) |.arr b s lo n,v=>∃A c,v= .slice A n c∧n≤c∧c≤9223372036854775807∧(n=0∨A=some ⟨b,lo*s,none⟩) |.vec u n,v=>v=u∧∃A c,u= .slice A n c∧n≤c∧c≤9223372036854775807 |.clo fn f c,v=>∃e cs,v= .func fn e.toArray cs.toArray∧zB p w f e∧zB p w c cs |.nilf,v=>v= .nilFunc |.nilm,v=>v= .map none |.nilp,v=>v= .pointer none |.stm n,v=>v= .int .i64 n |.map r,v=>v= .map (some r) |.ifc t d,v=>∃u,v= .iface t u∧Rep p w d u |.nili,v=>v= .nilIface |.tup ds,v=>∃g,v= .tuple g.toArray∧zB p w ds g |.undef,v=>v=Go.undef
def zj(p:Addr→Prop)(w:World):List D→List Value→Prop |[],cs=>cs=[] |d::ds,cs=>∃v rest,cs=v.cells.toList++rest∧Rep p w d v∧zj p w ds rest
def zB(p:Addr→Prop)(w:World):List D→List Value→Prop |[],b=>b=[] |d::ds,b=>∃v rest,b=v::rest∧Rep p w d v∧zB p w ds rest
end
def zE(p:Addr→Prop)(w:World)(b:Addr→Prop)(w':World):Prop:=∀a,p a→b a∧w'.cell? a=w.cell? a
theorem zE.refl(p:Addr→Prop)(w:World):zE p w p w:=fun _ h=>⟨h,rfl⟩
theorem zE.tr{p e b:Addr→Prop}{w w' c:World}(h:zE p w e w')(k:zE e w' b c):zE p w b c:=fun a d=>⟨(k a (h a d).1).1,(k a (h a d).1).2.trans (h a d).2⟩
theorem RdP.grow{p d:Addr→Prop}{w w':World}{A:Option Addr}{xs:List Value}(h:RdP p w A xs)(g:zE p w d w'):RdP d w' A xs:=by
 rcases h with h|⟨b,o,e,c⟩
 exact .inl h;exact .inr ⟨b,o,e,fun j u hu=>⟨(g _ (c j u hu).1).1,((g _ (c j u hu).1).2).trans (c j u hu).2⟩⟩
mutual
theorem Rep.grow{p r:Addr→Prop}{w w':World}(g:zE p w r w'):∀{d:D}{v:Value},Rep p w d v→Rep r w' d v
 |.bool _,_,h=>by simpa only[Rep]using h
 |.int _ _,_,h=>by simpa only[Rep]using h
 |.str _,_,h=>by simpa only[Rep]using h
 |.lst l,_,h=>by
  simp only[Rep]at h⊢;obtain⟨A,c,xs,e,f,j,m,n,q⟩:=h;exact⟨A,c,xs,e,f,j,m.grow g,zj.grow g n,q⟩
 |.full l,_,h=>by
  simp only[Rep]at h⊢;obtain⟨A,xs,e,j,m,n,q⟩:=h;exact⟨A,xs,e,j,m.grow g,zj.grow g n,q⟩
 |.own u l,_,h=>by
  simp only[Rep]at h⊢;obtain⟨x,A,c,xs,e,f,j,m,n,q⟩:=h;exact⟨x,A,c,xs,e,f,j,m.grow g,zj.grow g n,q⟩
 |.agg t,_,h=>by
  simp only[Rep]at h⊢;obtain⟨cs,e,f,j⟩:=h;exact⟨cs,e,zj.grow g f,j⟩
 |.ptr d,_,h=>by
  simp only[Rep]at h⊢;obtain⟨b,o,u,e,f,j,m⟩:=h;exact⟨b,o,u,e,f.grow g,Rep.grow g j,m⟩
 |.ref _ _ _,_,h=>by simpa only[Rep]using h
 |.mref _ _ _ _ _,_,h=>by simpa only[Rep]using h
 |.arr _ _ _ _,_,h=>by simpa only[Rep]using h
 |.vec _ _,_,h=>by simpa only[Rep]using h
 |.clo _ _ _,_,h=>by
  simp only[Rep]at h⊢;obtain⟨t,cs,e,f,j⟩:=h;exact⟨t,cs,e,zB.grow g f,zB.grow g j⟩
 |.nilf,_,h=>by simpa only[Rep]using h
 |.nilm,_,h=>by simpa only[Rep]using h
 |.nilp,_,h=>by simpa only[Rep]using h
 |.stm _,_,h=>by simpa only[Rep]using h
 |.map _,_,h=>by simpa only[Rep]using h
 |.ifc _ _,_,h=>by
  simp only[Rep]at h⊢;obtain⟨u,e,f⟩:=h;exact⟨u,e,Rep.grow g f⟩
 |.nili,_,h=>by simpa only[Rep]using h
 |.tup ds,_,h=>by
  simp only[Rep]at h⊢;obtain⟨z,e,f⟩:=h;exact⟨z,e,zB.grow g f⟩
 |.undef,_,h=>by simpa only[Rep]using h
theorem zj.grow{p b:Addr→Prop}{w w':World}(g:zE p w b w'):∀{ds:List D}{cs:List Value},zj p w ds cs→zj b w' ds cs
 |[],_,h=>by simpa only[zj]using h
 |_::_,_,h=>by
  simp only[zj]at h⊢;obtain⟨v,rest,c,d,e⟩:=h;exact⟨v,rest,c,Rep.grow g d,zj.grow g e⟩
theorem zB.grow{p b:Addr→Prop}{w w':World}(g:zE p w b w'):∀{ds:List D}{c:List Value},zB p w ds c→zB b w' ds c
 |[],_,h=>by simpa only[zB]using h
 |_::_,_,h=>by
  simp only[zB]at h⊢;obtain⟨v,rest,d,e,f⟩:=h;exact⟨v,rest,d,Rep.grow g e,zB.grow g f⟩
end
mutual
def sz:D→Nat |.agg b=>szs b |_=>1
def szs:List D→Nat |[]=>0 |d::ds=>sz d+szs ds
end
mutual
theorem Rep.sz{p:Addr→Prop}{w:World}:∀{d:D}{v:Value},Rep p w d v→v.cells.size=sz d
 |.agg e,_,h=>by
  simp only[Rep]at h;obtain⟨cs,rfl,f,_⟩:=h;simp only[Value.cells,YtgcegilpajfdhaaGreat.sz,jV];exact zj.len f
 |.bool _,_,h=>by simp only[Rep]at h;subst h;rfl
 |.int _ _,_,h=>by simp only[Rep]at h;rw[h.1];rfl
 |.str _,_,h=>by simp only[Rep]at h;rw[h.1];rfl
 |.lst _,_,h=>by simp only[Rep]at h;obtain⟨A,c,xs,rfl,_⟩:=h;rfl
 |.full _,_,h=>by simp only[Rep]at h;obtain⟨A,xs,rfl,_⟩:=h;rfl
 |.own _ _,_,h=>by simp only[Rep]at h;obtain⟨rfl,A,c,xs,rfl,_⟩:=h;rfl
 |.ptr _,_,h=>by simp only[Rep]at h;obtain⟨b,o,u,rfl,_⟩:=h;rfl
 |.ref _ _ _,_,h=>by simp only[Rep]at h;subst h;rfl
 |.mref _ _ _ _ _,_,h=>by simp only[Rep]at h;subst h;rfl
 |.arr _ _ _ _,_,h=>by simp only[Rep]at h;obtain⟨A,c,rfl,_⟩:=h;rfl
 |.vec _ _,_,h=>by simp only[Rep]at h;obtain⟨rfl,A,c,rfl,_⟩:=h;rfl
 |.clo _ _ _,_,h=>by simp only[Rep]at h;obtain⟨e,cs,rfl,_⟩:=h;rfl
 |.nilf,_,h=>by simp only[Rep]at h;subst h;rfl
 |.nilm,_,h=>by simp only[Rep]at h;subst h;rfl
 |.nilp,_,h=>by simp only[Rep]at h;subst h;rfl
 |.stm _,_,h=>by simp only[Rep]at h;subst h;rfl
 |.map _,_,h=>by simp only[Rep]at h;subst h;rfl
 |.ifc _ _,_,h=>by simp only[Rep]at h;obtain⟨u,rfl,_⟩:=h;rfl
 |.nili,_,h=>by simp only[Rep]at h;subst h;rfl
 |.tup _,_,h=>by simp only[Rep]at h;obtain⟨g,rfl,_⟩:=h;rfl
 |.undef,_,h=>by simp only[Rep]at h;subst h;rfl
theorem zj.len{p:Addr→Prop}{w:World}:∀{ds:List D}{cs:List Value},zj p w ds cs→cs.length=szs ds
 |[],_,h=>by simp only[zj]at h;subst h;rfl
 |d::ds,_,h=>by
  simp only[zj]at h;obtain⟨v,rest,rfl,b,c⟩:=h;rw[ja,zj.len c,szs,j8,Rep.sz b]
end
def Wk(d d':D):Prop:=∀p w v,Rep p w d v→Rep p w d' v
theorem Wk.refl(d:D):Wk d d:=fun _ _ _ h=>h
theorem Wk.own(u:Value)(l:List D):Wk (.own u l) (.lst l):=fun p w v h=>by
 simp only[Rep]at h⊢;obtain⟨rfl,h⟩:=h;exact h
theorem Wk.full(l:List D):Wk (.full l) (.lst l):=fun p w v h=>by
 simp only[Rep]at h⊢;obtain⟨A,xs,b,c,d⟩:=h;exact⟨A,_,xs,b,jf _,c,d⟩
theorem Wk.ofEq{d d':D}(h:d=d'):Wk d d':=h▸Wk.refl d
def D.plain:D→Bool |.tup _|.undef=>false |_=>true
theorem Rep.one{p:Addr→Prop}{w:World}{d:D}{v:Value}(h:Rep p w d v)(e:d.plain=true):∀u∈v.cells.toList,u.oneCell'=true:=by
 cases d<;>simp only[Rep]at h
 case agg f=>
  obtain⟨cs,rfl,_,g⟩:=h;simpa[Value.cells]using g
 case tup=>cases e
 case undef=>cases e
 case bool=>subst h;simp[Value.cells,Value.oneCell']
 case int=>rw[h.1];simp[Value.cells,Value.oneCell']
 case str=>rw[h.1];simp[Value.cells,Value.oneCell']
 case lst=>obtain⟨A,c,xs,rfl,_⟩:=h;simp[Value.cells,Value.oneCell']
 case full=>obtain⟨A,xs,rfl,_⟩:=h;simp[Value.cells,Value.oneCell']
 case own=>obtain⟨rfl,A,c,xs,rfl,_⟩:=h;simp[Value.cells,Value.oneCell']
 case ptr=>obtain⟨b,o,u,rfl,_⟩:=h;simp[Value.cells,Value.oneCell']
 case ref=>subst h;simp[Value.cells,Value.oneCell']
 case mref=>subst h;simp[Value.cells,Value.oneCell']
 case arr=>obtain⟨A,c,rfl,_⟩:=h;simp[Value.cells,Value.oneCell']
 case vec=>obtain⟨rfl,A,c,rfl,_⟩:=h;simp[Value.cells,Value.oneCell']
 case clo=>obtain⟨f,cs,rfl,_⟩:=h;simp[Value.cells,Value.oneCell']
 case nilf=>subst h;simp[Value.cells,Value.oneCell']
 case nilm=>subst h;simp[Value.cells,Value.oneCell']
 case nilp=>subst h;simp[Value.cells,Value.oneCell']
 case stm=>subst h;simp[Value.cells,Value.oneCell']
 case map=>subst h;simp[Value.cells,Value.oneCell']
 case ifc=>obtain⟨u,rfl,_⟩:=h;simp[Value.cells,Value.oneCell']
 case nili=>subst h;simp[Value.cells,Value.oneCell']
def D.isAgg:D→Bool |.agg _=>true |_=>false
def ye(d:D)(cs:List Value):Value:=match d with |.agg _=>.agg cs.toArray |_=>cs.headD Go.undef
theorem Rep.back{p:Addr→Prop}{w:World}{d:D}{v:Value}(h:Rep p w d v):v=ye d v.cells.toList:=by
 cases d<;>simp only[Rep]at h
 case agg e=>
  obtain⟨cs,rfl,_,f⟩:=h;simp[Value.cells,ye]
 case tup=>obtain⟨g,rfl,_⟩:=h;simp[Value.cells,ye]
 case undef=>subst h;simp[Value.cells,ye,Go.undef]
 case bool=>subst h;simp[Value.cells,ye]
 case int=>rw[h.1];simp[Value.cells,ye]
 case str=>rw[h.1];simp[Value.cells,ye]
 case lst=>obtain⟨A,c,xs,rfl,_⟩:=h;simp[Value.cells,ye]
 case full=>obtain⟨A,xs,rfl,_⟩:=h;simp[Value.cells,ye]
 case own=>obtain⟨rfl,A,c,xs,rfl,_⟩:=h;simp[Value.cells,ye]
 case ptr=>obtain⟨b,o,u,rfl,_⟩:=h;simp[Value.cells,ye]
 case ref=>subst h;simp[Value.cells,ye]
 case mref=>subst h;simp[Value.cells,ye]
 case arr=>obtain⟨A,c,rfl,_⟩:=h;simp[Value.cells,ye]
 case vec=>obtain⟨rfl,A,c,rfl,_⟩:=h;simp[Value.cells,ye]
 case clo=>obtain⟨e,cs,rfl,_⟩:=h;simp[Value.cells,ye]
 case nilf=>subst h;simp[Value.cells,ye]
 case nilm=>subst h;simp[Value.cells,ye]
 case nilp=>subst h;simp[Value.cells,ye]
 case stm=>subst h;simp[Value.cells,ye]
 case map=>subst h;simp[Value.cells,ye]
 case ifc=>obtain⟨u,rfl,_⟩:=h;simp[Value.cells,ye]
 case nili=>subst h;simp[Value.cells,ye]
theorem zj.app{p:Addr→Prop}{w:World}:∀{l m:List D}{xs ys:List Value},zj p w l xs→zj p w m ys→zj p w (l++m) (xs++ys)
 |[],_,_,_,h,k=>by simp only[zj]at h;subst h;simpa using k
 |d::l,m,_,ys,h,k=>by
  simp only[zj]at h;obtain⟨v,rest,rfl,b,c⟩:=h;rw[jy,jo];simp only[zj];exact⟨v,rest++ys,rfl,b,zj.app c k⟩
theorem zj.nil(p:Addr→Prop)(w:World):zj p w [] []:=by simp only[zj]
theorem zj.cons{p:Addr→Prop}{w:World}{d:D}{l:List D}{v:Value}{ys:List Value}(h:Rep p w d v)(k:zj p w l ys):zj p w (d::l) (v.cells.toList++ys):=by
 simp only[zj];exact⟨v,ys,rfl,h,k⟩
theorem zB.cons{p:Addr→Prop}{w:World}{d:D}{l:List D}{v:Value}{ys:List Value}(h:Rep p w d v)(k:zB p w l ys):zB p w (d::l) (v::ys):=by
 simp only[zB];exact⟨v,ys,rfl,h,k⟩
theorem zB.nil(p:Addr→Prop)(w:World):zB p w [] []:=by simp only[zB]
theorem zB.app{p:Addr→Prop}{w:World}:∀{l m:List D}{xs ys:List Value},zB p w l xs→zB p w m ys→zB p w (l++m) (xs++ys)
 |[],_,_,_,h,k=>by simp only[zB]at h;subst h;simpa using k
 |d::l,m,_,ys,h,k=>by
  simp only[zB]at h;obtain⟨v,rest,rfl,b,c⟩:=h;exact zB.cons b (zB.app c k)
theorem zB.at_{p:Addr→Prop}{w:World}:∀{l:List D}{b:List Value}{i:Nat}{d:D},zB p w l b→l[i]? =some d→∃v,b[i]? =some v∧Rep p w d v
 |[],_,_,_,_,hi=>by simp at hi
 |d::l,_,0,e,h,hi=>by
  simp only[zB]at h;obtain⟨v,rest,rfl,c,f⟩:=h;simp at hi;subst hi;exact⟨v,rfl,c⟩
 |d::l,_,i+1,e,h,hi=>by
  simp only[zB]at h;obtain⟨v,rest,rfl,c,f⟩:=h;simp at hi;obtain⟨u,g,j⟩:=zB.at_ f hi;exact⟨u,by simpa using g,j⟩
theorem zj.at_{p:Addr→Prop}{w:World}:∀{l:List D}{xs:List Value}{i:Nat}{d:D},zj p w l xs→l[i]? =some d→∃v,Rep p w d v∧xs=xs.take (szs (l.take i))++v.cells.toList++xs.drop (szs (l.take i)+sz d)∧(xs.take (szs (l.take i))).length=szs (l.take i)
 |[],_,_,_,_,hi=>by simp at hi
 |d::l,_,0,e,h,hi=>by
  simp only[zj]at h;obtain⟨v,rest,rfl,c,f⟩:=h;simp at hi;subst hi;refine⟨v,c,?_,by simp[szs]⟩;have hs:=Rep.sz c;simp only[vY,szs,jc,jq];rw[←hs,←j8,List.drop_left]
 |d::l,_,i+1,e,h,hi=>by
  simp only[zj]at h;obtain⟨v,rest,rfl,c,f⟩:=h;simp at hi;obtain⟨u,j,g,m⟩:=zj.at_ f hi;have hs:=Rep.sz c;have b:v.cells.toList.length=sz d:=by simpa using hs
  refine⟨u,j,?_,?_⟩;simp only[vQ,szs];have n:(v.cells.toList++rest).take (sz d+szs (l.take i))=v.cells.toList++rest.take (szs (l.take i)):=by rw[←b,v7]
  have q:(v.cells.toList++rest).drop (sz d+szs (l.take i)+sz e)=rest.drop (szs (l.take i)+sz e):=by rw[←b,jS,Ja]
  rw[n,q,jo,jo];rw[jo]at g;rw[←g];simp only[vQ,szs];rw[←b,v7,ja,m]
theorem zj.at_cell{p:Addr→Prop}{w:World}{l:List D}{xs:List Value}{i:Nat}{d:D}(h:zj p w l xs)(hi:l[i]? =some d):∃v,Rep p w d v∧∀j u,v.cells.toList[j]? =some u→xs[szs (l.take i)+j]? =some u:=by
 obtain⟨v,b,c,e⟩:=h.at_ hi;refine⟨v,b,fun j u hu=>?_⟩;rw[c,jo,vP oa,e,Nat.add_sub_cancel_left,j3 (jd.1 hu).1];exact hu
def zx(s:Nat)(l:List D):Prop:=∀d∈l,sz d=s
theorem zx.szs{s:Nat}:∀{l:List D},zx s l→szs l=l.length*s
 |[],_=>by simp[YtgcegilpajfdhaaGreat.szs]
 |d::l,h=>by
  have b:=h d (je ..);have c:=zx.szs (l:=l) fun e he=>h e (jp _ he);simp only[YtgcegilpajfdhaaGreat.szs,jg,b,c,jE,vx];omega
theorem zx.take{s:Nat}{l:List D}(h:zx s l)(i:Nat):zx s (l.take i):=fun d hd=>h d (j9 hd)
theorem zx.drop{s:Nat}{l:List D}(h:zx s l)(i:Nat):zx s (l.drop i):=fun d hd=>h d (vy hd)
theorem zx.app{s:Nat}{l m:List D}(h:zx s l)(k:zx s m):zx s (l++m):=fun d hd=>(jl.1 hd).elim (h d) (k d)
theorem zx.nil(s:Nat):zx s []:=fun _ h=>by cases h
theorem zj.take{p:Addr→Prop}{w:World}:∀{l:List D}{xs:List Value}(i:Nat),zj p w l xs→zj p w (l.take i) (xs.take (szs (l.take i)))
 |l,xs,0,_=>by simpa[szs]using zj.nil p w
 |[],_,i+1,h=>by simp only[zj]at h;subst h;simpa using zj.nil p w
 |d::l,_,i+1,h=>by
  simp only[zj]at h;obtain⟨v,rest,rfl,c,e⟩:=h;have b:v.cells.toList.length=sz d:=by simpa using Rep.sz c
  simp only[vQ,szs];rw[←b,v7];exact zj.cons c (zj.take i e)
theorem zj.drop{p:Addr→Prop}{w:World}:∀{l:List D}{xs:List Value}(i:Nat),zj p w l xs→zj p w (l.drop i) (xs.drop (szs (l.take i)))
 |l,xs,0,h=>by simpa[szs]using h
 |[],_,i+1,h=>by simp only[zj]at h;subst h;simpa using zj.nil p w
 |d::l,_,i+1,h=>by
  simp only[zj]at h;obtain⟨v,rest,rfl,c,e⟩:=h;have b:v.cells.toList.length=sz d:=by simpa using Rep.sz c
  simp only[vQ,List.drop_succ_cons,szs];rw[←b,Ja];exact zj.drop i e
abbrev Env:=List (Nat×D)
def lk:Env→Nat→Option D |[],_=>none |(k,d)::r,s=>bif jX k s then some d else lk r s
inductive Ob where
 |cell (b:Nat) (d:D)
 |row (u:Value) (n:Nat) (e:TypeId) (s:Nat)
 |arr (b:Nat) (l:List D) (e:TypeId) (s:Nat)
 |vec (u:Value) (l:List D) (e:TypeId) (s:Nat)
 |map (r:Nat) (kv:List (D×D))
 |mapE (r:Nat) (kv:List (D×D)) (es:Array MapEntry) (clock:Nat)
 |iter (b r since:Nat) (seen:Array Nat) (last:Nat)
 |aux (b:Nat) (o:Obj)
 |loop (l:Nat) (env:Env) (L:Loop)
abbrev St:=List Ob
def Ob.blk:Ob→Option Nat |.cell b _=>some b |.row u _ _ _=>u.ownBlock |.arr _ [] _ _=>none |.arr b (_::_) _ _=>some b |.vec u _ _ _=>u.ownBlock |.map r _=>some r |.mapE r _ _ _=>some r |.iter b _ _ _ _=>some b |.aux b _=>some b |.loop l _ _=>some l
def yl(σ:St):List Nat:=σ.filterMap Ob.blk
def zU(p:Addr→Prop)(w:World):List (D×D)→List MapEntry→Prop |[],es=>es=[] |(k,d)::b,es=>∃e rest,es=e::rest∧Rep p w k e.key∧Rep p w d e.val∧zU p w b rest
theorem zU.grow{p b:Addr→Prop}{w w':World}(g:zE p w b w'):∀{c:List (D×D)}{es:List MapEntry},zU p w c es→zU b w' c es
 |[],_,h=>h
 |_::_,_,⟨e,rest,d,f,j,l⟩=>⟨e,rest,d,f.grow g,j.grow g,zU.grow g l⟩
def zbb(p:Addr→Prop)(w:World):Ob→Prop |.cell b d=>∃v ty,Rep p w d v∧d.plain=true∧w.heap[b]? =some (.cells v.cells ty (0,0))∧∀a,p a→a.block≠b |.row u n e s=>(∃xs,w.ownsRow 0 e s u n xs)∧∀g,u.ownBlock=some g→∀a,p a→a.block=g→a.off<n*s |.arr b l e s=>zx s l∧l.length≤9223372036854775807∧0<s∧(l=[]∨∃xs junk,zj p w l xs∧(∀u∈xs,u.oneCell'=true)∧w.heap[b]? =some (.cells (xs++junk).toArray e (0,0))∧∀a,p a→a.block≠b) |.vec u l e s=>zx s l∧0<s∧(∃xs,w.ownsRow 0 e s u l.length xs∧zj p w l xs∧∀x∈xs,x.oneCell'=true)∧∀g,u.ownBlock=some g→∀a,p a→a.block≠g |.map r c=>∃es clock,w.heap[r]? =some (.map es clock)∧zU p w c es.toList∧c.length≤9223372036854775807∧(es.toList.map (·.born)).Nodup∧∀e∈es.toList,e.born<clock |.mapE r c es clock=>w.heap[r]? =some (.map es clock)∧zU p w c es.toList∧c.length≤9223372036854775807∧(es.toList.map (·.born)).Nodup∧∀e∈es.toList,e.born<clock |.iter b r since seen last=>w.heap[b]? =some (.mapIter (some r) since seen last) |.aux b o=>w.heap[b]? =some o |.loop l env L=>w.heap[l]? =some (.loop L)∧∀t d,lk env t=some d→Rep p w d (L.tmps.getD t Go.undef)
structure Ctx where
 w0:World
 p0:Addr→Prop
 F0:Nat→Prop
 X:D→St→Prop:=fun _ _=>False
structure Inv(K:Ctx)(p:Addr→Prop)(σ:St)(w:World):Prop where
 ok:∀o∈σ,zbb p w o
 nd:(yl σ).Nodup
 mine:∀b∈yl σ,K.w0.heap.size≤b∨K.F0 b
 pub:∀a,p a→∃v,w.cell? a=some v
 gr:zE K.p0 K.w0 p w
 neu:∀a,p a→K.p0 a∨K.w0.heap.size≤a.block∨K.F0 a.block
 os:w.os=K.w0.os
 tape:w.tape=K.w0.tape
 output:w.output=K.w0.output
 size:K.w0.heap.size≤w.heap.size
 block:∀b,b<K.w0.heap.size→¬K.F0 b→w.heap[b]? =K.w0.heap[b]?
theorem qfs{w:World}{a:Addr}{v:Value}(h:w.cell? a=some v):a.block<w.heap.size:=World.block_lt_of_cell? w a h
theorem qdy{w w':World}{a:Addr}(h:w'.heap[a.block]? =w.heap[a.block]?):w'.cell? a=w.cell? a:=World.cell?_of_block h
theorem zbb.lt{p:Addr→Prop}{w:World}{o:Ob}(h:zbb p w o){b:Nat}(hb:o.blk=some b):b<w.heap.size:=by
 cases o with
 |cell c d=>
  obtain⟨v,ty,_,_,f,_⟩:=h;simp only[Ob.blk,Option.some.injEq]at hb;subst hb;exact(jL.1 f).1
 |row u n e s=>
  obtain⟨⟨xs,g⟩,_⟩:=h;exact(g.lt b hb).2
 |arr c l e s=>
  obtain⟨_,_,_,h⟩:=h;cases l with
  |nil=>simp[Ob.blk]at hb
  |cons x l=>
   obtain⟨xs,junk,_,_,f,_⟩:=h.resolve_left og;simp only[Ob.blk,Option.some.injEq]at hb;subst hb;exact(jL.1 f).1
 |vec u l e s=>
  obtain⟨_,_,⟨xs,g,_⟩,_⟩:=h;exact(g.lt b hb).2
 |map r j=>
  obtain⟨es,cl,f,_⟩:=h;simp only[Ob.blk,Option.some.injEq]at hb;subst hb;exact(jL.1 f).1
 |mapE r j es cl=>
  obtain⟨f,_⟩:=h;simp only[Ob.blk,Option.some.injEq]at hb;subst hb;exact(jL.1 f).1
 |iter c r s seen l=>
  simp only[Ob.blk,Option.some.injEq]at hb;subst hb;exact(jL.1 (show w.heap[c]? =some _ from h)).1
 |aux c o=>
  simp only[Ob.blk,Option.some.injEq]at hb;subst hb;exact(jL.1 (show w.heap[c]? =some _ from h)).1
 |loop c env L=>
  simp only[Ob.blk,Option.some.injEq]at hb;subst hb;exact(jL.1 (show w.heap[c]? =some _ from h.1)).1
theorem zbb.keep{p G:Addr→Prop}{w w':World}{o:Ob}(h:zbb p w o)(g:zE p w G w')(m:∀b,o.blk=some b→w'.heap[b]? =w.heap[b]?)(F:∀a b,G a→o.blk=some b→a.block=b→p a):zbb G w' o:=by
 cases o with
 |cell b d=>
  obtain⟨v,ty,A,q,f,c⟩:=h;exact⟨v,ty,A.grow g,q,(m b rfl).trans f,fun a B hb=>c a (F a b B rfl hb) hb⟩
 |row u n e s=>
  obtain⟨⟨xs,A,q⟩,f⟩:=h;refine⟨⟨xs,A,?_⟩,fun j C a B hb=>f j C a (F a j B C hb) hb⟩;rcases q with q|⟨j,cap,cur,rfl,c,z,E⟩
  exact .inl q;exact .inr ⟨j,cap,cur,rfl,c,(m j rfl).trans z,E⟩
 |arr b l e s=>
  obtain⟨A,q,H,h⟩:=h;refine⟨A,q,H,?_⟩;cases l with
  |nil=>exact .inl rfl
  |cons x l=>
   obtain⟨xs,junk,f,c,z,E⟩:=h.resolve_left og;exact .inr ⟨xs,junk,f.grow g,c,(m b rfl).trans z,fun a B hb=>E a (F a b B rfl hb) hb⟩
 |vec u l e s=>
  obtain⟨A,q,⟨xs,⟨f,c⟩,z,E⟩,I⟩:=h;refine⟨A,q,⟨xs,⟨f,?_⟩,z.grow g,E⟩,fun j C a B hb=>I j C a (F a j B C hb) hb⟩;rcases c with c|⟨j,cap,cur,rfl,J,K,M⟩
  exact .inl c;exact .inr ⟨j,cap,cur,rfl,J,(m j rfl).trans K,M⟩
 |map r N=>
  obtain⟨es,cl,f,c,z⟩:=h;exact⟨es,cl,(m r rfl).trans f,c.grow g,z⟩
 |mapE r N es cl=>
  obtain⟨f,c,z⟩:=h;exact⟨(m r rfl).trans f,c.grow g,z⟩
 |iter b r s seen l=>exact(m b rfl).trans h
 |aux b o=>exact(m b rfl).trans h
 |loop b env L=>exact⟨(m b rfl).trans h.1,fun t d O=>(h.2 t d O).grow g⟩
theorem qd0{σ:St}{b:Nat}:b∈yl σ↔∃o∈σ,o.blk=some b:=by simp[yl,List.mem_filterMap]
theorem qgu(σ τ:St):yl (σ++τ)=yl σ++yl τ:=by simp[yl]
theorem qrB{σ τ:St}(h:σ.Perm τ):(yl σ).Perm (yl τ):=h.filterMap _
theorem Inv.lt{K:Ctx}{p:Addr→Prop}{σ:St}{w:World}(h:Inv K p σ w){b:Nat}(hb:b∈yl σ):b<w.heap.size:=by
 obtain⟨o,c,hb⟩:=qd0.1 hb;exact(h.ok o c).lt hb
theorem Inv.perm{K:Ctx}{p:Addr→Prop}{σ τ:St}{w:World}(h:Inv K p σ w)(c:σ.Perm τ):Inv K p τ w:=
 ⟨fun o d=>h.ok o (c.mem_iff.2 d),(qrB c).nodup_iff.1 h.nd,fun b hb=>h.mine b ((qrB c).mem_iff.2 hb),h.pub,h.gr,h.neu,h.os,h.tape,h.output,h.size,h.block⟩
theorem Inv.less{K:Ctx}{p:Addr→Prop}{σ τ:St}{w:World}(h:Inv K p (σ++τ) w):Inv K p σ w:=by
 have hn:=h.nd;rw[qgu]at hn;exact⟨fun o c=>h.ok o (jz _ c),(jT.1 hn).1,fun b hb=>h.mine b (by rw[qgu];exact jz _ hb),h.pub,h.gr,h.neu,h.os,h.tape,h.output,h.size,h.block⟩
def ctx(w:World)(p:Addr→Prop)(σ:St):Ctx:={w0:=w,p0:=p,F0:=fun b=>b∈yl σ}
theorem Inv.enter{K:Ctx}{p:Addr→Prop}{σ τ:St}{w:World}(h:Inv K p (σ++τ) w):Inv (ctx w p σ) p σ w:=
 let b:=h.less
 ⟨b.ok,b.nd,fun _ hb=>.inr hb,h.pub,zE.refl p w,fun _ c=>.inl c,rfl,rfl,rfl,jf _,fun _ _ _=>rfl⟩
theorem Inv.leave{K:Ctx}{p n:Addr→Prop}{σ σ' τ:St}{w w':World}(h:Inv K p (σ++τ) w)(d:Inv (ctx w p σ) n σ' w'):Inv K n (σ'++τ) w':=by
 have hn:=h.nd;rw[qgu]at hn;obtain⟨q,l,m⟩:=jT.1 hn;have g:∀o∈τ,∀b,o.blk=some b→b<w.heap.size∧b∉yl σ:=fun o e b hb=>⟨(h.ok o (jB _ e)).lt hb,fun hm=>m b hm b (qd0.2 ⟨o,e,hb⟩) rfl⟩
 refine⟨fun o e=>?_,?_,fun b hb=>?_,d.pub,h.gr.tr d.gr,fun a j=>?_,d.os.trans h.os,d.tape.trans h.tape,d.output.trans h.output,vG h.size d.size,fun b hb hF=>?_⟩;rcases jl.1 e with e|e
 exact d.ok o e;refine(h.ok o (jB _ e)).keep d.gr (fun b hb=>d.block b (g o e b hb).1 (g o e b hb).2) fun a b j hb f=>?_;rcases d.neu a j with c|c|c
 exact c;have:=(g o e b hb).1;simp only[ctx]at c;omega;exact absurd (f▸c) (g o e b hb).2;rw[qgu];refine jT.2 ⟨d.nd,l,fun a j b hb f=>?_⟩;subst f;obtain⟨o,e,hb⟩:=qd0.1 hb;rcases d.mine a j with c|c
 have:=(g o e a hb).1;simp only[ctx]at c;omega;exact(g o e a hb).2 c;rw[qgu]at hb;rcases jl.1 hb with hb|hb
 rcases d.mine b hb with c|c
 exact .inl (vG h.size c);exact h.mine b (by rw[qgu];exact jz _ c);exact h.mine b (by rw[qgu];exact jB _ hb);rcases d.neu a j with c|c|c
 exact h.neu a c;exact .inr (.inl (vG h.size c));exact .inr (h.mine _ (by rw[qgu];exact jz _ c));refine(d.block b (vi hb h.size) fun hm=>?_).trans (h.block b hb hF);rcases h.mine b (by rw[qgu];exact jz _ hm)with c|c
 omega;exact hF c
def Left(K:Ctx)(R:D→St→Prop)(e:Ending)(w:World):Prop:=(∃v d σ p,e= .returned v∧R d σ∧Rep p w d v∧Inv K p σ w)∨∃v d σ p,e= .panicked [{v,recovered:=false}]∧K.X d σ∧Rep p w d v∧Inv K p σ w
def Spec(P:Program)(f:FuncId)(ds:List D)(σ:St)(R:D→St→Prop):Prop:= ∀(w:World)(p:Addr→Prop)(b:List Value),Inv (ctx w p σ) p σ w→zB p w ds b→Calls P f b.toArray w (Left (ctx w p σ) R)
def zf(P:Program)(f:FuncId)(ds:List D)(d:D):Prop:=Spec P f ds [] fun d' _=>d'=d
section
variable{K:Ctx}{p:Addr→Prop}{σ:St}{w:World}
theorem qdu(p:Addr→Prop)(w:World):zE p w p w.drew:=fun _ b=>⟨b,rfl⟩
theorem Inv.drew(h:Inv K p σ w):Inv K p σ w.drew:=⟨fun o b=>(h.ok o b).keep (qdu p w) (fun _ _=>rfl) fun _ _ c _ _=>c,h.nd,h.mine,h.pub,h.gr.tr (qdu p w),h.neu,h.os,h.tape,h.output,h.size,h.block⟩
theorem qaw(c:∀a,p a→∃v,w.cell? a=some v)(o:Obj):zE p w p (w.alloc o):=fun a b=>⟨b,by
 obtain⟨v,d⟩:=c a b;exact qdy (Below.heap_alloc w o _ (qfs d))⟩
theorem Inv.alloc(h:Inv K p σ w)(o:Obj):Inv K p σ (w.alloc o):=by
 have g:=qaw h.pub o;refine⟨fun o' d=>?_,h.nd,h.mine,fun a c=>?_,h.gr.tr g,h.neu,h.os,h.tape,h.output,vG h.size og,fun b hb hF=>(Below.heap_alloc w o b (vi hb h.size)).trans (h.block b hb hF)⟩;exact(h.ok o' d).keep g (fun b hb=>Below.heap_alloc w o b ((h.ok o' d).lt hb)) fun a _ c _ _=>c;obtain⟨v,e⟩:=h.pub a c;exact⟨v,((g a c).2).trans e⟩
theorem Inv.give(h:Inv K p σ w)(q:Addr→Prop)(hq:∀a,q a→(∃v,w.cell? a=some v)∧(K.w0.heap.size≤a.block∨K.F0 a.block)∧∀o∈σ,∀b,o.blk=some b→a.block=b→p a):Inv K (fun a=>p a∨q a) σ w:=by
 have g:zE p w (fun a=>p a∨q a) w:=fun a c=>⟨.inl c,rfl⟩
 refine⟨fun o f=>?_,h.nd,h.mine,fun a c=>?_,h.gr.tr g,fun a c=>?_,h.os,h.tape,h.output,h.size,h.block⟩;exact(h.ok o f).keep g (fun _ _=>rfl) fun a b c hb e=>c.elim id fun d=>(hq a d).2.2 o f b hb e;exact c.elim (h.pub a) fun d=>(hq a d).1;exact c.elim (h.neu a) fun d=>.inr (hq a d).2.1
theorem qfd(p q:Addr→Prop)(w:World):zE p w (fun a=>p a∨q a) w:=fun a b=>⟨.inl b,rfl⟩
theorem Inv.more(h:Inv K p σ w){o:Ob}(g:zbb p w o)(hb:∀b,o.blk=some b→(K.w0.heap.size≤b∨K.F0 b)∧b∉yl σ):Inv K p (o::σ) w:=by
 refine⟨fun o' c=>(jx.1 c).elim (fun e=>e▸g) (h.ok o'),?_,fun b f=>?_,h.pub,h.gr,h.neu,h.os,h.tape,h.output,h.size,h.block⟩;cases d:o.blk with
 |none=>simpa[yl,d]using h.nd
 |some b=>
  have:=(hb b d).2;simp only[yl]at this⊢;simp only[vt,d,vd];exact⟨this,h.nd⟩
 obtain⟨o',c,d⟩:=qd0.1 f;rcases jx.1 c with rfl|c
 exact(hb b d).1;exact h.mine b (qd0.2 ⟨o',c,d⟩)
theorem Inv.tail{o:Ob}(h:Inv K p (o::σ) w):Inv K p σ w:=(h.perm (vH (l₁:=[o]) (l₂:=σ))).less
theorem Inv.write{o o':Ob}{w':World}{m:Addr→Prop}{b:Nat}(h:Inv K p (o::σ) w)(hb:o.blk=some b)(n:o'.blk=some b)(g:zE p w m w')(j:∀a,m a→p a∨a.block=b)(E:zbb m w' o')(q:∀a,m a→∃v,w'.cell? a=some v)
 (u:w'.os=w.os) (F:w'.tape=w.tape) (x:w'.output=w.output) (z:w'.heap.size=w.heap.size) (r:∀k,k≠b→w'.heap[k]? =w.heap[k]?):Inv K m (o'::σ) w':=by
 have hn:=h.nd;have hm:=h.mine b (qd0.2 ⟨o,je ..,hb⟩);have A:b∉yl σ:=by
  simp only[yl,vt,hb,vd]at hn;exact hn.1
 have key:∀d∈σ,∀k,d.blk=some k→k≠b:=fun d c k f e=>A (qd0.2 ⟨d,c,e▸f⟩);refine⟨fun d c=>?_,?_,fun k f=>?_,q,h.gr.tr g,fun a B=>?_,u.trans h.os,F.trans h.tape,x.trans h.output,z▸h.size,fun k f hF=>?_⟩
 · rcases jx.1 c with rfl|c
   · exact E
   · exact(h.tail.ok d c).keep g (fun k f=>r k (key d c k f)) fun a k B f C=>(j a B).resolve_right fun e=>key d c k f (C▸e)
 · simp only[yl,vt,hb,n,vd]at hn⊢
   exact hn
 · obtain⟨d,c,t⟩:=qd0.1 f
   rcases jx.1 c with rfl|c
   · rw[n]at t;injection t with t;exact t▸hm
   · exact h.mine k (qd0.2 ⟨d,jp _ c,t⟩)
 · rcases j a B with l|l
   · exact h.neu a l
   · rw[l];exact .inr hm
 · refine(r k fun e=>?_).trans (h.block k f hF)
   subst e;rcases hm with l|l
   · omega
   · exact hF l
end
def za6:Value→Option D |.bool b=>some (.bool b) |.int k n=>some (.int k n) |.string s=>some (.str s) |.slice none 0 0=>some (.full []) |.nilFunc=>some .nilf |.map none=>some .nilm |.pointer none=>some .nilp |.nilIface=>some .nili |_=>none
def ev(env:Env):Operand→Option D |.tmp t=>lk env t |.const v=>za6 v |.func f=>some (.clo (.func f) [] []) |.global _=>none
def zbW:Value→Bool |.int k n=>k.wrap n==n |.string s=>decide (s.size≤9223372036854775807) |_=>true
def zaV:Operand→Bool |.const v=>zbW v |_=>true
def zD(p:Addr→Prop)(w:World)(env:Env)(a:Act):Prop:=∀t d,lk env t=some d→Rep p w d (a.tmps.getD t Go.undef)
theorem zD.grow{p b:Addr→Prop}{w w':World}{env:Env}{a:Act}(h:zD p w env a)(g:zE p w b w'):zD b w' env a:=fun t d c=>(h t d c).grow g
theorem qpr{p:Addr→Prop}{w:World}{v:Value}{d:D}(h:za6 v=some d)(b:zbW v=true):Rep p w d v:=by
 unfold za6 at h;split at h<;>first|(injection h with h;subst h)|(cases h;done)
 simp only[Rep];simpa[Rep,zbW]using b;simpa[Rep,zbW]using b;simp only[Rep];exact⟨none,[],rfl,by simp,.inl rfl,zj.nil _ _,by simp⟩;simp only[Rep];simp only[Rep];simp only[Rep];simp only[Rep]
theorem qzl{p:Addr→Prop}{w:World}{env:Env}{a:Act}(h:zD p w env a){x:Operand}{d:D}(b:ev env x=some d)(c:zaV x=true):Rep p w d (a.eval x):=by
 cases x with
 |tmp t=>exact h t d b
 |const v=>exact qpr b c
 |func f=>
  injection b with b
  subst b;simp only[Rep];exact⟨[],[],rfl,zB.nil _ _,zB.nil _ _⟩
 |global g=>cases b
theorem qa5(k:Nat)(d:D)(env:Env)(s:Nat):lk ((k,d)::env) s=if k=s then some d else lk env s:=by
 simp only[lk];by_cases h:k=s;subst h;simp;rw[if_neg h];have:jX k s=false:=by
  cases hb:jX k s;rfl;exact absurd (Nat.eq_of_beq_eq_true hb) h
 rw[this];rfl
def Env.put(env:Env)(dst:Option Tmp)(d:D):Env:=match dst with |some t=>(t,d)::env |none=>env
theorem zD.put{p:Addr→Prop}{w:World}{env:Env}{a:Act}{dst:Option Tmp}{d:D}{v:Value}(h:zD p w env a)(c:Rep p w d v)(hd:∀t,dst=some t→t<a.tmps.size):zD p w (env.put dst d) (a.put dst v):=by
 cases dst with
 |none=>exact h
 |some t=>
  intro s e hs;rw[Env.put,qa5]at hs;simp only[Act.put];by_cases b:t=s;subst b;rw[if_pos rfl]at hs;injection hs with hs
  subst hs;simpa[hd t rfl]using c;rw[if_neg b]at hs;have:=h s e hs;simpa[Jb b]using this
def Sub(b env:Env):Prop:=∀t d,lk b t=some d→∃e,lk env t=some e∧Wk e d
theorem Sub.nil(env:Env):Sub [] env:=fun _ _ h=>by cases h
theorem Sub.cons{b env:Env}{k:Nat}{d e:D}(h:lk env k=some e)(hw:Wk e d)(hs:Sub b env):Sub ((k,d)::b) env:=fun t d' c=>by
 rw[qa5]at c;by_cases f:k=t;subst f;rw[if_pos rfl]at c;injection c with c
 subst c;exact⟨e,h,hw⟩;rw[if_neg f]at c;exact hs t d' c
theorem Sub.cons'{b env:Env}{k:Nat}{d:D}(h:lk env k=some d)(hs:Sub b env):Sub ((k,d)::b) env:=Sub.cons h (Wk.refl d) hs
theorem sc{b env:Env}{k:Nat}{d:D}(h:lk env k=some d)(hs:Sub b env):Sub ((k,d)::b) env:=Sub.cons' h hs
theorem zD.sub{p:Addr→Prop}{w:World}{env b:Env}{a:Act}(h:zD p w env a)(hs:Sub b env):zD p w b a:=fun t d c=>
 let⟨e,f,g⟩:=hs t d c
 g _ _ _ (h t e f)
theorem zan(b o k:Nat):(⟨b,o,none⟩:Addr).add k=⟨b,o+k,none⟩:=by
 unfold Addr.add;split;rename_i h;simp[h]
 rfl
structure Md where
 rd:Option Nat
 ms:List Nat
 ds:List Deferred
 kd:CallKind
abbrev Md.top:Md:=⟨none,[],[],.normal⟩
def zal(kd:CallKind)(P:Program)(fr:Frame)(w:World):Ending→Prop |.returned v=>fr.mode= .returning∧fr.defers=[]∧fr.kind=kd∧∃fn,P.funcs[fr.fn]? =some fn∧(results fn fr.tmps).run P w= .ok v w |.panicked chain=>fr.mode= .panicking chain∧fr.defers=[]∧∃fn,P.funcs[fr.fn]? =some fn |.outgrown=>True
theorem zal.normal{P:Program}{fr:Frame}{w:World}{e:Ending}(h:zal .normal P fr w e):fr.leaving P w e:=by
 cases e with
 |returned v=>exact h
 |panicked c=>exact h
 |outgrown=>trivial
def Md.marks(m:Md):List Deferred:=m.ds++m.ms.map fun D=>{target:=.collected D,args:=#[]}
def Fin(rd:Option Nat)(kd:CallKind)(P:Program)(f:FuncId)(K:Ctx)(R:D→St→Prop)(b:Frame)(cs:List Frame)(w:World):Prop:=match rd with |none=>∃e w' fr,Left K R e w'∧Comes P (lone b cs w) (lone fr cs w') e∧fr.fn=f∧zal kd P fr w' e |some _=>∀c d,cs=c::d→∃v w',Left K R (.returned v) w'∧Steps P (lone b cs w) (lone (c.finish v) d w')
theorem Fin.of_steps{rd:Option Nat}{kd:CallKind}{P:Program}{f:FuncId}{K:Ctx}{R:D→St→Prop}{b fr1:Frame}{cs:List Frame}{w w1:World}(hs:Steps P (lone b cs w) (lone fr1 cs w1))(h:Fin rd kd P f K R fr1 cs w1):Fin rd kd P f K R b cs w:=by
 cases rd with
 |none=>
  obtain⟨e,w',fr,d,g,m,n⟩:=h;exact⟨e,w',fr,d,.of_steps hs g,m,n⟩
 |some l=>
  intro c j q;obtain⟨v,w',d,g⟩:=h c j q;exact⟨v,w',d,hs.trans g⟩
def Rest(m:Md)(P:Program)(f:FuncId)(fn:Func)(K:Ctx)(R:D→St→Prop)(k:List Item)(a:Act)(w:World):Prop:= ∀(b:Frame)(cs:List Frame),b.fn=f→b.kind=m.kd→b.roundOf=m.rd→P.funcs[f]? =some fn→Fin m.rd m.kd P f K R (b.atR a k) cs w
def ze(m:Md)(P:Program)(f:FuncId)(fn:Func)(K:Ctx)(R:D→St→Prop)(k:List Item)(env:Env)(σ:St):Prop:= ∀(p:Addr→Prop)(a:Act)(w:World),Inv K p σ w→zD p w env a→fn.ntmps≤a.tmps.size→a.defers=m.marks→Rest m P f fn K R k a w
abbrev Goes(P:Program)(f:FuncId)(fn:Func)(K:Ctx)(R:D→St→Prop)(k:List Item):Env→St→Prop:=ze Md.top P f fn K R k
def fw:Option Nat→Fence |none=>Fence.wide |some l=>Fence.wide.inRound l
theorem qmV(rd:Option Nat):(fw rd).round=rd:=by cases rd<;>rfl
theorem ql0(rd:Option Nat)(f:FuncId):(fw rd).fn f:=by cases rd<;>trivial
theorem qqS(rd:Option Nat)(n:Nat):(fw rd).room n:=by cases rd<;>exact room_wide _
theorem qj1{rd:Option Nat}{P:Program}{m b:Machine}(h:StepsIn (Machine.fenced P (fw rd)) P m b):Steps P m b:=by
 cases rd<;>exact stepsIn_wide.1 h
theorem qyi{rd:Option Nat}{n:Nat}{P:Program}{f:FuncId}{args:Array Value}{w:World}{R:Ending→World→Prop}(h:Calls P f args w R):CallsIn (fw rd) n P f args w R:=by
 cases rd with
 |none=>exact callsIn_wide.2 h
 |some l=>exact CallsIn.inRound l (callsIn_wide.2 h)
section
variable{m:Md}{P:Program}{f:FuncId}{fn:Func}{K:Ctx}{R:D→St→Prop}{k:List Item}{env:Env}{σ:St}
theorem qle{d:List Item}(hs:∀(b:Frame)(a:Act)(cs:List Frame)(w:World),step P (lone (b.atR a k) cs w)= .next (lone (b.atR a d) cs w))(h:ze m P f fn K R d env σ):ze m P f fn K R k env σ:=
 fun p a w hi hr hn hd b cs hb e c g=>.of_steps (.one (hs b a cs w)) (h p a w hi hr hn hd b cs hb e c g)
theorem qx{x y:Code}(h:ze m P f fn K R (.code x:: .code y::k) env σ):ze m P f fn K R (.code (.seq x y)::k) env σ:=qle (fun _ _ _ _=>stepR_seq) h
theorem qaC(h:ze m P f fn K R k env σ):ze m P f fn K R (.code .skip::k) env σ:=qle (fun _ _ _ _=>stepR_skip) h
theorem qau{id:Nat}(h:ze m P f fn K R k env σ):ze m P f fn K R (.inBlock id::k) env σ:=qle (fun _ _ _ _=>stepR_inBlock) h
theorem qcj{id:Nat}{c:Code}(h:ze m P f fn K R (.code c:: .inBlock id::k) env σ):ze m P f fn K R (.code (.block id c)::k) env σ:=qle (fun _ _ _ _=>stepR_block) h
theorem qi9{id:Nat}{b:List Item}(he:exitTo id k=some b)(h:ze m P f fn K R b env σ):ze m P f fn K R (.code (.exit id)::k) env σ:=qle (fun _ _ _ _=>stepR_exit he) h
theorem qx5{c:Code}(h:ze m P f fn K R (.code c:: .inLoop c::k) env σ):ze m P f fn K R (.inLoop c::k) env σ:=qle (fun _ _ _ _=>stepR_inLoop) h
theorem quy{c:Operand}{x y:Code}{t:Bool}(j:ev env c=some (.bool t))(l:zaV c=true)(n:t=true→ze m P f fn K R (.code x::k) env σ)(q:t=false→ze m P f fn K R (.code y::k) env σ):ze m P f fn K R (.code (.cond c x y)::k) env σ:=
 fun p a w hi hr hn hd b cs hb e d g=>by
  have h:=qzl hr j l;simp only[Rep]at h;have hs:=stepR_cond (P:=P) (b:=b) (k:=k) (cs:=cs) (w:=w) (x:=x) (y:=y) h;cases t with
  |true=>exact .of_steps (.one hs) (n rfl p a w hi hr hn hd b cs hb e d g)
  |false=>exact .of_steps (.one hs) (q rfl p a w hi hr hn hd b cs hb e d g)
theorem qhh{c:Code}(I:Nat→Env→St→Prop)(n:Nat)(g:I n env σ)(round:∀n env σ,I n env σ→(∀e b σ',e<n→I e b σ'→ze m P f fn K R (.inLoop c::k) b σ')→ze m P f fn K R (.code c:: .inLoop c::k) env σ):ze m P f fn K R (.code (.loop c)::k) env σ:=by
 refine qle (fun _ _ _ _=>stepR_loop) ?_;have key:∀n env σ,I n env σ→ze m P f fn K R (.code c:: .inLoop c::k) env σ:=by
  intro n;induction n using Nat.strongRecOn with
  |_ n h=>exact fun env σ j=>round n env σ j fun m b σ' hm d=>qx5 (h m hm b σ' d)
 exact key n env σ g
theorem qcS(b:Env)(hs:Sub b env)(h:ze m P f fn K R k b σ):ze m P f fn K R k env σ:=fun p a w hi hr=>h p a w hi (hr.sub hs)
theorem qjd(σ' τ:St)(hs:σ.Perm (σ'++τ))(h:ze m P f fn K R k env σ'):ze m P f fn K R k env σ:=fun p a w hi=>h p a w ((hi.perm hs).less)
def zbd(P:Program)(K:Ctx)(n:Nat)(m:Md)(X:Env→D→St→Prop)(Q:Env→St→Prop):Exit→Act→World→Prop:=fun e g w'=>(e= .normal∧∃b σ' c,Q b σ'∧Inv K c σ' w'∧zD c w' b g∧n≤g.tmps.size∧g.defers=m.marks)∨∃v d τ c b,e= .panic [{v,recovered:=false}]∧X b d τ∧Rep c w' d v∧Inv K c τ w'∧zD c w' b g∧g.defers=m.marks
theorem qlz{id:Nat}{ops:Array Oper}{dr:Bool}{Q:Env→St→Prop}{X:Env→D→St→Prop}(h:∀(p:Addr→Prop)(a:Act)(w:World),Inv K p σ w→zD p w env a→fn.ntmps≤a.tmps.size→a.defers=m.marks→(Code.region id ops dr).wpIn (fw m.rd) 0 P (zbd P K fn.ntmps m X Q) a w)
 (hX:∀e d τ,X e d τ→K.X d τ∧m=Md.top) (hq:∀c σ',Q c σ'→ze m P f fn K R k c σ'):ze m P f fn K R (.code (.region id ops dr)::k) env σ:=fun p a w hi hr hn hd b cs hb z j l=>by
 obtain⟨e,x,w',A,g⟩:=h p a w hi hr hn hd b k cs (j.trans (qmV _).symm) (ql0 _ _) (qqS _ _);rcases A with⟨rfl,c,σ',n,q,i1,i2,i3,i4⟩|⟨v,d,τ,n,c,rfl,r,B,t,_,u⟩
 · exact .of_steps (qj1 g) (hq c σ' q n x w' i1 i2 i3 i4 b cs hb z j l)
 · obtain⟨todo,hs⟩:=g
   obtain⟨r,rfl⟩:=hX c d τ r;exact⟨.panicked [{v,recovered:=false}],w',{b.atR x todo with mode:=.panicking [{v,recovered:=false}]},.inr ⟨v,d,τ,n,rfl,r,B,t⟩,qj1 hs,hb,rfl,u,fn,by rw[←hb]at l;exact l⟩
theorem qpt{C:Prop}(b:∀(p:Addr→Prop)(a:Act)(w:World),Inv K p σ w→zD p w env a→C)(h:C→ze m P f fn K R k env σ):ze m P f fn K R k env σ:=fun p a w hi hr=>h (b p a w hi hr) p a w hi hr
def zaw:TypeDesc→Bool |.struct _|.array _ _=>true |_=>false
def Ty(P:Program)(t:TypeId)(b:Bool)(n:Nat):Prop:=(∃x,P.underlying t=some x∧zaw x=b)∧(P.info? t).map (·.size)=some n
theorem qrT{t:TypeId}{b:Bool}{n:Nat}(h:Ty P t b n)(w:World):(isAgg t).run P w= .ok b w:=by
 obtain⟨⟨x,c,hb⟩,_⟩:=h;unfold isAgg;simp only[Sem.run_bind,run_underlying c,Result.andThen_ok];cases x<;>simp_all [zaw]
theorem qpc{t:TypeId}{b:Bool}{n:Nat}(h:Ty P t b n)(w:World):(sizeOf t).run P w= .ok n w:=by
 obtain⟨_,hs⟩:=h;obtain⟨i,hi,hn⟩:=jC.1 hs;simp[sizeOf,typeInfo,hi,hn]
theorem qfT{t:TypeId}{n:Nat}{d:D}{p:Addr→Prop}{w:World}{u:Value}{b o:Nat}(h:Ty P t d.isAgg n)(hn:sz d=n)(hu:Rep p w d u)(l:∀j x,u.cells.toList[j]? =some x→w.cell? ⟨b,o+j,none⟩=some x):(loadVar t ⟨b,o,none⟩).run P w= .ok u w:=by
 have hs:=Rep.sz hu;have e:=Rep.back hu;unfold loadVar;simp only[Sem.run_bind,qrT h,Result.andThen_ok];have g:∀j v,u.cells.toList[j]? =some v→w.cell? ((⟨b,o,none⟩:Addr).add j)=some v:=fun j v r=>by rw[zan];exact l j v r
 cases hd:d.isAgg with
 |true=>
  have hl:=run_loadCells_list (P:=P) w ⟨b,o,none⟩ u.cells.toList g;rw[j8,hs,hn]at hl;simp only[if_true,Sem.run_bind,qpc h,Result.andThen_ok,hl];rw[e];cases d<;>simp[D.isAgg]at hd
  simp[ye,Value.cells]
 |false=>
  simp only[va,if_false];have z:u.cells.toList[0]? =some u:=by
   cases d<;>simp[D.isAgg]at hd<;>simp only[Rep]at hu
   case tup=>obtain⟨B,rfl,_⟩:=hu;simp[Value.cells]
   case undef=>subst hu;simp[Value.cells,Go.undef]
   case bool=>subst hu;simp[Value.cells]
   case int=>rw[hu.1];simp[Value.cells]
   case str=>rw[hu.1];simp[Value.cells]
   case lst=>obtain⟨A,c,xs,rfl,_⟩:=hu;simp[Value.cells]
   case full=>obtain⟨A,xs,rfl,_⟩:=hu;simp[Value.cells]
   case own=>obtain⟨rfl,A,c,xs,rfl,_⟩:=hu;simp[Value.cells]
   case ptr=>obtain⟨b,o,u,rfl,_⟩:=hu;simp[Value.cells]
   case ref=>subst hu;simp[Value.cells]
   case mref=>subst hu;simp[Value.cells]
   case arr=>obtain⟨A,c,rfl,_⟩:=hu;simp[Value.cells]
   case vec=>obtain⟨rfl,A,c,rfl,_⟩:=hu;simp[Value.cells]
   case clo=>obtain⟨C,cs,rfl,_⟩:=hu;simp[Value.cells]
   case nilf=>subst hu;simp[Value.cells]
   case nilm=>subst hu;simp[Value.cells]
   case nilp=>subst hu;simp[Value.cells]
   case stm=>subst hu;simp[Value.cells]
   case map=>subst hu;simp[Value.cells]
   case ifc=>obtain⟨u,rfl,_⟩:=hu;simp[Value.cells]
   case nili=>subst hu;simp[Value.cells]
  have q:=l 0 u z;simp only[vh]at q;simp[q]
def ResD(P:Program)(env:Env)(σ:St):ResultVar→D→Prop |.tmp t,d=>∃e,lk env t=some e∧Wk e d |.cell t ty,d=>∃e n,Wk e d∧Ty P ty e.isAgg n∧sz e=n∧(lk env t=some (.ptr e)∨∃b,lk env t=some (.ref b 0 [])∧.cell b e∈σ)
inductive yF(P:Program)(env:Env)(σ:St):List ResultVar→List D→Prop
 |nil:yF P env σ [] []
 |cons {r:ResultVar} {d:D} {rs:List ResultVar} {ds:List D} (h:ResD P env σ r d) (k:yF P env σ rs ds):yF P env σ (r::rs) (d::ds)
def yU:List D→D |[d]=>d |ds=>.tup ds
def zcC(a:Act):ResultVar→Sem Value |.tmp t=>pure (a.tmps.getD t Go.undef) |.cell x t=>do loadVar t (←asAddr (a.tmps.getD x Go.undef))
theorem qu9{p:Addr→Prop}{a:Act}{w:World}(hi:Inv K p σ w)(hr:zD p w env a){r:ResultVar}{d:D}(h:ResD P env σ r d):
 ∃v,(zcC a r).run P w= .ok v w∧Rep p w d v:=by
 cases r with
 |tmp t=>
  obtain⟨e,g,A⟩:=h;exact⟨_,by simp[zcC],A _ _ _ (hr t e g)⟩
 |cell t ty=>
  obtain⟨e,n,hw,B,hn,g|⟨b,g,A⟩⟩:=h;have:=hr t _ g;simp only[Rep]at this;obtain⟨b,o,u,q,c,z,C⟩:=this;have hl:=qfT (P:=P) (b:=b) (o:=o) B hn z (fun j x l=>by
   rcases c with c|⟨H,o',c,E⟩
   rw[c]at l;simp at l;injection c with c;injection c with c F;subst c F;exact(E j x l).2)
  exact⟨u,by simp only[zcC,q,asAddr,Sem.run_bind,Sem.run_pure,Result.andThen_ok,hl],hw _ _ _ z⟩;have:=hr t _ g;simp only[Rep]at this;obtain⟨u,G,q,c,z,C⟩:=hi.ok _ A;have hl:=qfT (P:=P) (b:=b) (o:=0) B hn q (fun j x l=>by
   rw[cell_of_row _ _ _ _ _ _ z];simpa using l)
  exact⟨u,by simp only[zcC,this,asAddr,Sem.run_bind,Sem.run_pure,Result.andThen_ok,hl],hw _ _ _ q⟩
theorem qnh{p:Addr→Prop}{a:Act}{w:World}(hi:Inv K p σ w)(hr:zD p w env a):∀{rs:List ResultVar}{ds:List D},yF P env σ rs ds→
 ∃b:List Value,(rs.mapM (zcC a)).run P w= .ok b w∧zB p w ds b
 |_,_,.nil=>⟨[],by simp,zB.nil _ _⟩
 |_,_,.cons h k=>by
  obtain⟨v,c,d⟩:=qu9 hi hr h;obtain⟨b,e,g⟩:=qnh hi hr k;exact⟨v::b,by simp only[List.mapM_cons,Sem.run_bind,c,Result.andThen_ok,e,Sem.run_pure],zB.cons d g⟩
theorem qiH{p:Addr→Prop}{a:Act}{w:World}(hi:Inv K p σ w)(hr:zD p w env a){ds:List D}(h:yF P env σ fn.results.toList ds):∃v,(results fn a.tmps).run P w= .ok v w∧Rep p w (yU ds) v:=by
 obtain⟨c,n,b⟩:=qnh hi hr h;have e:results fn a.tmps=(do let c←fn.results.mapM (zcC a);pure (if h:c.size=1 then c[0]else .tuple c)):=by
  unfold results;congr 1
 rw[e];have q:(fn.results.mapM (zcC a)).run P w= .ok c.toArray w:=by
  rw[Array.mapM_eq_mapM_toList];simp[n]
 simp only[Sem.run_bind,q,Result.andThen_ok,Sem.run_pure];refine⟨_,rfl,?_⟩;match ds,c,b with
 |[],c,b=>
  simp only[zB]at b;subst b;simp only[yU,Rep,zB];exact⟨[],rfl,rfl⟩
 |[d],c,b=>
  simp only[zB]at b;obtain⟨v,rest,rfl,l,rfl⟩:=b;simpa[yU]using l
 |d::e::ds,c,b=>
  have j:=b;simp only[zB]at b;obtain⟨v,rest,rfl,l,u,g,rfl,r,t⟩:=b;simp only[yU,Rep];refine⟨v::u::g,by simp,j⟩
theorem qqq{p:Addr→Prop}{a:Act}{w:World}{ds:List D}(hi:Inv K p σ w)(hr:zD p w env a)(hd:a.defers=[])(d:P.funcs[f]? =some fn)(c:yF P env σ fn.results.toList ds)(hR:R (yU ds) σ)(b:Frame){kd:CallKind}(hb:b.fn=f)(g:b.kind=kd)(todo:List Item):
 ∃e,Left K R e w∧zal kd P ({b.atR a todo with mode:=.returning}:Frame) w e∧e≠.outgrown:=by
 obtain⟨v,j,l⟩:=qiH (fn:=fn) hi hr c;exact⟨.returned v,.inl ⟨v,_,σ,p,rfl,hR,l,hi⟩,⟨rfl,hd,g,fn,by rw[←hb]at d;exact d,j⟩,fun h=>by cases h⟩
theorem qbN(_:P.funcs[f]? =some fn)(ds:List D)(g:yF P env σ fn.results.toList ds)(hR:R (yU ds) σ):Goes P f fn K R (.code .ret::k) env σ:=fun p a w hi hr hn hd b cs hb h d j=>by
 obtain⟨e,l,n,q⟩:=qqq (R:=R) hi hr hd j g hR b hb h (.code .ret::k);refine⟨e,w,{b.atR a (.code .ret::k)with mode:=.returning},l,?_,hb,n⟩;cases e with
 |returned v=>exact Steps.one (stepR_ret d)
 |panicked c=>exact Steps.one (stepR_ret d)
 |outgrown=>exact absurd rfl q
theorem qxt(_:P.funcs[f]? =some fn)(ds:List D)(g:yF P env σ fn.results.toList ds)(hR:R (yU ds) σ):Goes P f fn K R [] env σ:=fun p a w hi hr hn hd b cs hb h d j=>by
 obtain⟨e,l,n,q⟩:=qqq (R:=R) hi hr hd j g hR b hb h [];refine⟨e,w,{b.atR a []with mode:=.returning},l,?_,hb,n⟩;cases e with
 |returned v=>exact Steps.one (stepR_end d)
 |panicked c=>exact Steps.one (stepR_end d)
 |outgrown=>exact absurd rfl q
def yA:Nat→List D→Env |_,[]=>[] |i,d::ds=>(i,d)::yA (i+1) ds
theorem qkP:∀(ds:List D)(i t:Nat)(d:D),lk (yA i ds) t=some d→i≤t∧ds[t-i]? =some d
 |[],_,_,_,h=>by cases h
 |e::ds,i,t,d,h=>by
  rw[yA,qa5]at h;by_cases hi:i=t;subst hi;rw[if_pos rfl]at h;exact⟨jf _,by simpa using h⟩;rw[if_neg hi]at h;obtain⟨c,b⟩:=qkP ds (i+1) t d h;refine⟨by omega,?_⟩;have:t-i=(t-(i+1))+1:=by omega
  rw[this];simpa using b
theorem qsO{c:Code}{ds:List D}(r:P.funcs[f]? =some fn)(hb:fn.body=some c)(h:∀K,(K.F0=fun b=>b∈yl σ)→Goes P f fn K R [.code c] (yA 0 ds) σ):Spec P f ds σ R:=by
 intro w p j hi u cs;let b:Frame:={(default:Frame)with fn:=f,kind:=.normal,roundOf:=none}
 have g:Frame.enter P f j.toArray .normal=b.atR {tmps:=j.toArray++Array.replicate (fn.ntmps-j.toArray.size) undef,defers:=[]} [.code c]:=by
  simp[Frame.enter,Frame.atR,r,hb,b]
 rw[g];suffices x:Fin none .normal P f (ctx w p σ) R (b.atR {tmps:=j.toArray++Array.replicate (fn.ntmps-j.toArray.size) undef,defers:=[]} [.code c]) cs w by
  obtain⟨e,w',fr,z,n,l,q⟩:=x;exact⟨e,w',fr,z,n,l,q.normal⟩
 refine h (ctx w p σ) rfl p _ w hi ?_ ?_ rfl b cs rfl rfl rfl r;intro t d A;obtain⟨_,n⟩:=qkP ds 0 t d A;obtain⟨v,l,q⟩:=u.at_ n;have:(j.toArray++Array.replicate (fn.ntmps-j.toArray.size) Go.undef).getD t Go.undef=v:=by
  have hlt:=(jd.1 l).1;have B:j[t]? =some v:=by simpa using l
  rw[Array.getD_eq_getD_getElem?,JB (by simpa using hlt)];simp[B]
 rw[this];exact q;simp;omega
theorem qam{c:Code}{ds:List D}(env:Env)(d:P.funcs[f]? =some fn)(hb:fn.body=some c)(he:yA 0 ds=env)(h:∀K,(K.F0=fun b=>b∈yl σ)→Goes P f fn K R [.code c] env σ):Spec P f ds σ R:=qsO d hb fun K hK=>he▸h K hK
end
def yW(ops:Array Oper)(env:Env)(o:Oper):Option Bool:=match o.guard with |none=>some true |some (j,want)=>match(ops[j]?).bind (·.dst)with |none=>none |some t=>match lk env t with |some (.bool b)=>some (b==want) |some .undef=>some false |_=>none
theorem qdU{p:Addr→Prop}{w:World}{ops:Array Oper}{env:Env}{a:Act}{o:Oper}{b:Bool}(hr:∀t∈o.looksAt ops,∀d,lk env t=some d→Rep p w d (a.tmps.getD t Go.undef))(h:yW ops env o=some b):Region.wanted o (yielded ops a.tmps)=b:=by
 unfold yW at h;unfold Region.wanted;cases e:o.guard with
 |none=>simp only[e]at h⊢;injection h
 |some g=>
  obtain⟨j,want⟩:=g;simp only[e]at h⊢;unfold yielded;cases hd:(ops[j]?).bind (·.dst)with
  |none=>simp[hd]at h
  |some t=>
   simp only[hd]at h⊢;have hm:t∈o.looksAt ops:=by simp[Oper.looksAt,e,hd]
   cases hl:lk env t with
   |none=>simp[hl]at h
   |some d=>
    have c:=hr t hm d hl;simp only[hl]at h;cases d<;>simp only[Rep]at c<;>simp at h
    rw[Array.getD_eq_getD_getElem?]at c;cases hq:a.tmps[t]? with
    |none=>rw[hq]at c;cases c
    |some u=>
     rw[hq]at c;simp only[JC]at c;subst c h;rename_i bb
     simp only[jb,hq];cases want<;>cases bb<;>rfl
    rw[Array.getD_eq_getD_getElem?]at c;subst h;cases hq:a.tmps[t]? with
    |none=>simp[hq]
    |some u=>
     rw[hq]at c;simp only[JC]at c;subst c;simp[hq,Go.undef]
def zp(P:Program)(o:Oper)(ρ:Operand→Option D)(σ:St)(R:D→St→Prop):Prop:= ∀(K:Ctx)(p:Addr→Prop)(a:Act)(w:World),Inv K p σ w→(∀x∈o.op.operands,∀d,ρ x=some d→Rep p w d (a.eval x))→ o.wp P a w (fun c w'=>∃v d σ' b,c=a.put o.dst v∧R d σ'∧Rep b w' d v∧Inv K b σ' w'∧zE p w b w') (fun _ _ _=>False)
def zi(P:Program)(o:Oper)(ρ:Operand→Option D)(d:D):Prop:=∀σ,zp P o ρ σ fun d' σ'=>d'=d∧σ'=σ
def za5(P:Program)(o:Oper)(ρ:Operand→Option D)(σ:St)(R:D→St→Prop):Prop:= ∀(rd:Option Nat)(K:Ctx)(p:Addr→Prop)(a:Act)(w:World),Inv K p σ w→(∀x∈o.op.operands,∀d,ρ x=some d→Rep p w d (a.eval x))→ o.wpIn (fw rd) 0 P a w (fun c w'=>∃v d σ' b,c=a.put o.dst v∧R d σ'∧Rep b w' d v∧Inv K b σ' w'∧zE p w b w') (fun _ _ _=>False)
theorem qeV(a:Act)(dst:Option Tmp)(v:Value):(a.put dst v).defers=a.defers:=by cases dst<;>rfl
theorem qph{rd:Option Nat}{P:Program}{m b:Machine}(h:Steps P m b):StepsIn (Machine.fenced P (fw rd)) P m b:=by
 cases rd<;>exact stepsIn_wide.2 h
theorem qvP{P:Program}{o:Oper}{a:Act}{rd:Option Nat}{N:Act→World→Prop}{Q:Exit→Act→World→Prop}{r:Result Next}(h:o.upon P a N Q r):o.uponIn (fw rd) 0 P a N Q r:=by
 have hd:(fw rd).depth.isSome=true→False:=by cases rd<;>(intro h;cases h)
 unfold Oper.upon at h;unfold Oper.uponIn;split at h
 exact h;exact h;exact h;exact⟨fun h=>(hd h).elim,qyi h⟩;refine⟨fun h=>(hd h).elim,fun c cs _=>?_⟩;obtain⟨v,w',b,d⟩:=h c cs;exact⟨v,w',b,qph d⟩;exact h;exact h.elim
theorem qgc{P:Program}{o:Oper}{a:Act}{w:World}{N:Act→World→Prop}{Q:Exit→Act→World→Prop}(h:o.wp P a w N Q):o.wpIn (fw none) 0 P a w N Q:=
 ⟨fun f _=>ql0 none f,qvP h⟩
theorem zp.y{P:Program}{o:Oper}{ρ:Operand→Option D}{σ:St}{R:D→St→Prop}(h:zp P o ρ σ R):za5 P o ρ σ R:=fun rd K p a w hi j=>by
 have b:=h K p a w hi j;cases rd with
 |none=>exact qgc b
 |some l=>
  refine⟨fun f _=>ql0 _ f,?_⟩;by_cases hd:∃c,o.op= .defer c;obtain⟨c,g⟩:=hd;exfalso;unfold Oper.wp at b;simp only[execOp,g,Sem.run_bind]at b;cases hr:(resolve a.eval c o.type).run P w with
  |ok d w'=>
   rw[hr]at b;obtain⟨v,d',σ',n,e,_⟩:=b;have:=congrArg Act.defers e;rw[qeV,qeV]at this;have:=congrArg List.length this;simp at this
  |halt x w'=>
   rw[hr]at b;cases x<;>exact b
  rw[show(fw (some l)).round=some l from rfl,Oper.semAt_eq _ _ _ fun c g=>hd ⟨c,g⟩];exact qvP b
def zcP(P:Program)(o:Oper)(ρ:Operand→Option D)(σ τ:St)(d:D):Prop:= ∀(K:Ctx)(p:Addr→Prop)(a:Act)(w:World),Inv K p σ w→(∀x∈o.op.operands,∀d,ρ x=some d→Rep p w d (a.eval x))→ o.wp P a w (fun _ _=>False) (fun e c w'=>∃v b,e= .panic [{v,recovered:=false}]∧c=a∧Rep b w' d v∧Inv K b τ w'∧zE p w b w')
abbrev DieS(P:Program)(o:Oper)(ρ:Operand→Option D)(σ:St)(d:D):Prop:=zcP P o ρ σ [] d
abbrev NX:Env→D→St→Prop:=fun _ _ _=>False
inductive Cls where
 |d|r|w|x
 deriving DecidableEq
def Cls.isW:Cls→Bool |.w|.x=>true |_=>false
section
variable{P:Program}{ops:Array Oper}
def Run(P:Program)(ops:Array Oper)(X:Env→D→St→Prop)(Q:Env→St→Prop):List (Nat×Cls)→Env→St→Prop |[],env,σ=>Q env σ |(i,c)::l,env,σ=>∃o,ops[i]? =some o∧((yW ops env o=some false∧Run P ops X Q l (env.put o.dst .undef) σ)∨(yW ops env o=some true∧match c with |.d=>∃d,zi P o (ev env) d∧Run P ops X Q l (env.put o.dst d) σ |.r=>∃d,zp P o (ev env) σ (fun d' σ'=>d'=d∧σ'=σ)∧Run P ops X Q l (env.put o.dst d) σ |.w=>∃R,za5 P o (ev env) σ R∧∀d σ',R d σ'→Run P ops X Q l (env.put o.dst d) σ' |.x=>∃R,za5 P o (ev env) σ R∧∀d σ',R d σ'→Run P ops X Q l (env.put o.dst d) σ')∨(yW ops env o=some true∧∃e d τ,(∀t,lk e t=lk env t)∧X e d τ∧zcP P o (ev env) σ τ d∧c.isW=true))
theorem qhj{X:Env→D→St→Prop}{Q Q':Env→St→Prop}(hq:∀e s,Q e s→Q' e s):∀(l:List (Nat×Cls))(env:Env)(σ:St),Run P ops X Q l env σ→Run P ops X Q' l env σ
 |[],_,_,h=>hq _ _ h
 |(i,c)::l,env,σ,h=>by
  obtain⟨o,j,h⟩:=h;refine⟨o,j,?_⟩;rcases h with⟨hw,h⟩|⟨hw,h⟩|h
  exact .inl ⟨hw,qhj hq l _ _ h⟩;rotate_left
  exact .inr (.inr h);refine .inr (.inl ⟨hw,?_⟩);cases c with
  |d=>obtain⟨d,b,g⟩:=h;exact⟨d,b,qhj hq l _ _ g⟩
  |r=>obtain⟨d,b,g⟩:=h;exact⟨d,b,qhj hq l _ _ g⟩
  |w=>obtain⟨R,b,g⟩:=h;exact⟨R,b,fun d σ' hR=>qhj hq l _ _ (g d σ' hR)⟩
  |x=>obtain⟨R,b,g⟩:=h;exact⟨R,b,fun d σ' hR=>qhj hq l _ _ (g d σ' hR)⟩
def yw(ops:Array Oper)(n:Nat):Bool:=ops.toList.all fun o=>(match o.dst with|some t=>decide (t<n)|none=>true)&&o.op.operands.toList.all zaV
theorem qhX{n i:Nat}{o:Oper}(h:yw ops n=true)(b:ops[i]? =some o)(t:Nat)(c:o.dst=some t):t<n:=by
 have hm:o∈ops.toList:=List.mem_of_getElem? (by simpa using b);have:=jD.1 h o hm;simp only[jk,c,decide_eq_true_eq]at this;exact this.1
theorem quZ{n i:Nat}{o:Oper}(h:yw ops n=true)(b:ops[i]? =some o)(x:Operand)(c:x∈o.op.operands):zaV x=true:=by
 have hm:o∈ops.toList:=List.mem_of_getElem? (by simpa using b);have:=jD.1 h o hm;simp only[jk]at this;exact jD.1 this.2 x (by simpa using c)
theorem qkt{p:Addr→Prop}{w:World}{env:Env}{a:Act}{o:Oper}{n i:Nat}(h:yw ops n=true)(e:ops[i]? =some o)(hr:∀t∈o.looksAt ops,∀d,lk env t=some d→Rep p w d (a.tmps.getD t Go.undef)):∀x∈o.op.operands,∀d,ev env x=some d→Rep p w d (a.eval x):=fun x c d hd=>by
 have b:=quZ h e x c;cases x with
 |tmp t=>
  refine hr t ?_ d hd;exact jz _ (List.mem_filterMap.2 ⟨.tmp t,by simpa using c,rfl⟩)
 |const v=>exact qpr hd b
 |func f=>
  injection hd with hd
  subst hd;simp only[Rep];exact⟨[],[],rfl,zB.nil _ _,zB.nil _ _⟩
 |global g=>cases hd
def Good(K:Ctx)(n:Nat)(m:Md)(env:Env)(σ:St)(a:Act)(w:World):Prop:=∃p,Inv K p σ w∧zD p w env a∧n≤a.tmps.size∧a.defers=m.marks
theorem qjM(a:Act)(dst:Option Tmp)(v:Value):(a.put dst v).tmps.size=a.tmps.size:=by cases dst<;>simp[Act.put]
theorem qvi{F:Fence}{n:Nat}{P:Program}{o:Oper}{a:Act}{r:Result Next}{N l:Act→World→Prop}{Q Q':Exit→Act→World→Prop}(hn:∀d w',N d w'→l d w')(hq:∀e d w',Q e d w'→Q' e d w')(h:o.uponIn F n P a N Q r):o.uponIn F n P a l Q' r:=by
 unfold Oper.uponIn at h⊢;split at h
 exact hn _ _ h;exact hn _ _ h;exact hn _ _ h;refine⟨h.1,CallsIn.mono h.2 fun e w' b=>?_⟩;cases e with
 |returned v=>exact hn _ _ b
 |panicked c=>exact hq _ _ _ b
 |outgrown=>obtain⟨g,j,b⟩:=b;exact⟨g,j,hq _ _ _ b⟩
 exact⟨h.1,RowsIn.mono h.2 fun v w' b=>hn _ _ b⟩;refine⟨h.1,RoundIn.mono h.2 fun e w' b=>?_⟩;cases e with
 |returned v=>exact hn _ _ b
 |panicked c=>exact hq _ _ _ b
 |outgrown=>obtain⟨g,j,b⟩:=b;exact⟨g,j,hq _ _ _ b⟩
 exact hq _ _ _ h;exact h.elim
theorem qix{F:Fence}{n:Nat}{P:Program}{o:Oper}{a:Act}{w:World}{N c:Act→World→Prop}{Q Q':Exit→Act→World→Prop}(hn:∀b w',N b w'→c b w')(hq:∀e b w',Q e b w'→Q' e b w')(h:o.wpIn F n P a w N Q):o.wpIn F n P a w c Q':=
 ⟨h.1,qvi hn hq h.2⟩
theorem qnm{n:Nat}{K:Ctx}{m:Md}{X:Env→D→St→Prop}{Q:Env→St→Prop}(hX:∀e d τ,X e d τ→m.rd=none)(g:yw ops n=true):∀(l:List (Nat×Cls))(env:Env)(σ:St)(a:Act)(w:World),Run P ops X Q l env σ→Good K n m env σ a w→
 wpOpsIn (fw m.rd) 0 P ops (zbd P K n m X Q) (l.map (·.1)) a w
 |[],env,σ,a,w,h,⟨p,A,j,z,B⟩=>.inl ⟨rfl,env,σ,p,h,A,j,z,B⟩
 |(i,c)::l,env,σ,a,w,h,⟨p,A,j,z,B⟩=>by
  obtain⟨o,C,h⟩:=h;simp only[jm,wpOpsIn,C];rcases h with⟨hw,h⟩|⟨hw,h⟩|⟨hw,M,d,τ,F,N,h,_⟩
  rotate_right
  have:=qdU (a:=a) (p:=p) (w:=w) (fun t _ d b=>j t d b) hw;rw[this];simp only[if_true];have q:=h K p a w A (qkt g C fun t _ d b=>j t d b);rw[hX M d τ N];exact qix (fun O w' u=>u.elim) (fun e O w' u=>by
   obtain⟨v,G,rfl,rfl,H,hi,I⟩:=u;exact .inr ⟨v,d,τ,G,M,rfl,N,H,hi,fun t d' b=>(j.grow I) t d' (by rw[←F t];exact b),B⟩) (qgc q)
  have:=qdU (a:=a) (p:=p) (w:=w) (fun t _ d b=>j t d b) hw;rw[this];simp only[va,if_false];exact⟨fun f _=>ql0 _ f,qnm hX g l _ σ _ w h ⟨p,A,j.put (by simp only[Rep]) fun t b=>vi (qhX g C t b) z,by rw[qjM];exact z,by rw[qeV];exact B⟩⟩;have:=qdU (a:=a) (p:=p) (w:=w) (fun t _ d b=>j t d b) hw;rw[this];simp only[if_true];have key:∃R,za5 P o (ev env) σ R∧∀d σ',R d σ'→Run P ops X Q l (env.put o.dst d) σ':=by
   cases c with
   |d=>obtain⟨d,hs,E⟩:=h;exact⟨_,(hs σ).y,fun d' σ'⟨J,L⟩=>J▸L▸E⟩
   |r=>obtain⟨d,hs,E⟩:=h;exact⟨_,hs.y,fun d' σ'⟨J,L⟩=>J▸L▸E⟩
   |w=>exact h
   |x=>exact h
  obtain⟨R,hs,E⟩:=key;have q:=hs m.rd K p a w A (qkt g C fun t _ d b=>j t d b);refine qix (fun O w' u=>?_) (fun _ _ _ u=>u.elim) q;obtain⟨v,d,σ',G,rfl,hR,H,hi,I⟩:=u;exact qnm hX g l _ σ' _ w' (E d σ' hR) ⟨G,hi,(j.grow I).put H fun t b=>vi (qhX g C t b) z,by rw[qjM];exact z,by rw[qeV];exact B⟩
theorem qAb{f:FuncId}{fn:Func}{K:Ctx}{R:D→St→Prop}{k:List Item}{env:Env}{σ:St}{id:Nat}{l:List Oper}(b:yw l.toArray fn.ntmps=true)(ord:List (Nat×Cls))(c:ord.map (·.1)=List.range l.length)
 (h:Run P l.toArray (fun _=>K.X) (Goes P f fn K R k) ord env σ):Goes P f fn K R (.code (.region id l.toArray false)::k) env σ:=
 qlz (Q:=Goes P f fn K R k) (X:=fun _=>K.X) (fun p a w hi hr hn hd=>by
  refine wpIn_region ?_;have:=qnm (K:=K) (m:=Md.top) (fun _ _ _ _=>rfl) b ord env σ a w h ⟨p,hi,hr,hn,hd⟩;rw[c]at this;simpa using this) (fun _ _ _ h=>⟨h,rfl⟩) (fun _ _ h=>h)
def ix:Nat→List Cls→List (Nat×Cls) |_,[]=>[] |n,c::cs=>(n,c)::ix (n+1) cs
theorem gr{f:FuncId}{fn:Func}{K:Ctx}{R:D→St→Prop}{k:List Item}{env:Env}{σ:St}{id:Nat}{l:List Oper}(cs:List Cls)(h:Run P l.toArray (fun _=>K.X) (Goes P f fn K R k) (ix 0 cs) env σ)(hok:yw l.toArray fn.ntmps=true:=by kernel_rfl)(ho:(ix 0 cs).map (·.1)=List.range l.length:=by rfl):Goes P f fn K R (.code (.region id l.toArray false)::k) env σ:=qAb hok (ix 0 cs) ho h
theorem qgw{m:Md}{f:FuncId}{fn:Func}{K:Ctx}{R:D→St→Prop}{k:List Item}{env:Env}{σ:St}{id:Nat}{l:List Oper}(b:yw l.toArray fn.ntmps=true)(ord:List (Nat×Cls))(c:ord.map (·.1)=List.range l.length)
 (h:Run P l.toArray NX (ze m P f fn K R k) ord env σ):ze m P f fn K R (.code (.region id l.toArray false)::k) env σ:=
 qlz (Q:=ze m P f fn K R k) (X:=NX) (fun p a w hi hr hn hd=>by
  refine wpIn_region ?_;have:=qnm (K:=K) (m:=m) (X:=NX) (fun _ _ _ h=>h.elim) b ord env σ a w h ⟨p,hi,hr,hn,hd⟩;rw[c]at this;simpa using this) (fun _ _ _ h=>h.elim) (fun _ _ h=>h)
end
structure PE where
 i:Nat
 c:Cls
 o:Oper
 E:Env
 V:D
def zS(T:Nat→Bool)(env:Env)(l:List PE):Env:=l.foldl (fun E e=>if T e.i then E.put e.o.dst e.V else E) env
abbrev yp(env:Env)(l:List PE):Env:=zS (fun _=>true) env l
theorem qe0(env:Env)(dst:Option Tmp)(d:D)(s:Nat):lk (env.put dst d) s=if dst=some s then some d else lk env s:=by
 cases dst with
 |none=>simp[Env.put]
 |some t=>simp only[Env.put,qa5,Option.some.injEq]
theorem qhi(T:Nat→Bool)(env:Env)(l m:List PE):zS T env (l++m)=zS T (zS T env l) m:=by simp[zS]
theorem qgT{T:Nat→Bool}{t:Nat}:∀{l:List PE}{E:Env},(∀e∈l,T e.i=true→e.o.dst≠some t)→lk (zS T E l) t=lk E t
 |[],_,_=>rfl
 |e::l,E,h=>by
  have c:=qgT (T:=T) (t:=t) (l:=l) (E:=if T e.i then E.put e.o.dst e.V else E) fun d b=>h d (jp _ b);simp only[zS,vj]at c⊢;rw[c];split
  rename_i g
  rw[qe0,if_neg (h e (je ..) g)];rfl
theorem qlB{T:Nat→Bool}{t:Nat}:∀{l:List PE}{E c:Env},(∀e∈l,e.o.dst=some t→T e.i=true)→lk E t=lk c t→lk (zS T E l) t=lk (yp c l) t
 |[],_,_,_,b=>b
 |e::l,E,c,h,b=>by
  simp only[zS,vj];refine qlB (l:=l) (fun g d=>h g (jp _ d)) ?_;simp only[if_true];by_cases hd:e.o.dst=some t;rw[h e (je ..) hd];simp[qe0,hd];rw[qe0,if_neg hd];split
  rw[qe0,if_neg hd];exact b;exact b
theorem qe6{T T':Nat→Bool}:∀{l:List PE}{E:Env},(∀e∈l,T e.i=T' e.i)→zS T E l=zS T' E l
 |[],_,_=>rfl
 |e::l,E,h=>by
  simp only[zS,vj];rw[h e (je ..)];exact qe6 (l:=l) fun c b=>h c (jp _ b)
section
variable{P:Program}{ops:Array Oper}
def zbo(ops:Array Oper)(r M:Array Nat):Bool:=(List.range ops.size).all fun k=>(List.range ops.size).all fun j=>!(M.getD k 0).testBit j||(match ops[k]? with |some o=>o.after.any fun e=>Region.binds .any e&&decide (r.getD e.on 0<r.getD k 0∧e.on<ops.size)&&(e.on==j||(M.getD e.on 0).testBit j) |none=>false)
def zcG(ops:Array Oper)(r:Array Nat):Bool:=(List.range ops.size).all fun k=>match ops[k]? with |some o=>o.after.all fun e=>!Region.binds .any e||decide (r.getD e.on 0<r.getD k 0∧e.on<ops.size) |none=>true
def zbR(n:Nat)(ord:List Nat):Array Nat:=(ord.foldl (fun(x:Array Nat×Nat) i=>(x.1.setIfInBounds i x.2,x.2+1)) (Array.replicate n 0,0)).1
def yI(ops:Array Oper)(ord:List Nat):Array Nat:=ord.foldl (fun M i=>match ops[i]? with |some o=>M.setIfInBounds i (o.after.foldl (fun m e=>if Region.binds .any e then m|||(1<<<e.on)|||M.getD e.on 0 else m) 0) |none=>M) (Array.replicate ops.size 0)
def yx(ops:Array Oper)(j k:Nat):Bool:=match ops[j]?,ops[k]? with |some x,some y=>x.apart ops y |_,_=>false
def yb(ops:Array Oper)(M:Array Nat)(x y:Nat×Cls):Bool:=(M.getD y.1 0).testBit x.1||(!x.2.isW&& !(x.2== .r&&y.2.isW)&&yx ops x.1 y.1)
def zab:List (Nat×Cls)→Option Nat |[]=>none |y::l=>if y.2.isW then some y.1 else zab l
theorem qoU:∀{l:List (Nat×Cls)}{j:Nat},zab l=some j→∃c,(j,c)∈l
 |[],_,h=>by cases h
 |y::l,j,h=>by
  unfold zab at h;split at h
  injection h with h
  exact⟨y.2,by rw[←h];exact je ..⟩;obtain⟨c,b⟩:=qoU h;exact⟨c,jp _ b⟩
def zcn(M:Array Nat)(l:List (Nat×Cls)):List (Nat×Cls):=match zab l with |some j=>l.filter fun y=>!(y.1==j||(M.getD y.1 0).testBit j) |none=>l
def yf(ops:Array Oper)(M:Array Nat):List (Nat×Cls)→Bool |[]=>true |x::l=>(match x.2 with|.x=>zcn M l|_=>l).all (fun y=>yb ops M x y)&&yf ops M l
def zaB(n:Nat)(ord:List (Nat×Cls)):Bool:=(List.range n).all (fun i=>ord.any fun x=>x.1==i)&&ord.all (fun x=>decide (x.1<n))&&decide (ord.map (·.1)).Nodup
def zah(ops:Array Oper)(ord:List (Nat×Cls)):Bool:=zbo ops (zbR ops.size (ord.map (·.1))) (yI ops (ord.map (·.1)))&&zcG ops (zbR ops.size (ord.map (·.1)))&&yf ops (yI ops (ord.map (·.1))) ord&&zaB ops.size ord
def Tof(b:Array Bool)(i:Nat):Bool:=b.getD i false
def Down(ops:Array Oper)(b:Array Bool):Prop:=∀k o,ops[k]? =some o→Tof b k=true→∀e∈o.after,Region.binds .any e=true→Tof b e.on=true
theorem qnr{r M:Array Nat}{b:Array Bool}(v:zbo ops r M=true)(hd:Down ops b):∀(n:Nat)(k:Nat)(o:Oper),r.getD k 0=n→ops[k]? =some o→(∀e∈o.after,Region.binds .any e=true→Tof b e.on=true)→∀j,j<ops.size→(M.getD k 0).testBit j=true→Tof b j=true:=by
 intro n;induction n using Nat.strongRecOn with
 |_ n x=>
  intro k o hn q c j t hb;have z:k<ops.size:=(jL.1 q).1;have h:=jD.1 (jD.1 v k (by simpa using z)) j (by simpa using t);rw[hb]at h;simp only[j5,vR,q]at h;obtain⟨e,he,u⟩:=Array.any_eq_true'.1 h;simp only[jk,decide_eq_true_eq,Jq,beq_iff_eq]at u;obtain⟨⟨A,B,d⟩,l⟩:=u;have hl:=c e he A;rcases l with rfl|l
  exact hl;obtain⟨o',g⟩:∃o',ops[e.on]? =some o':=⟨ops[e.on]'d,vB d⟩
  exact x (r.getD e.on 0) oa e.on o' rfl g (hd e.on o' g hl) j t l
theorem qeX{M:Array Nat}:∀{l m:List (Nat×Cls)}{x y:Nat×Cls},yf ops M (l++x::m)=true→x.2≠.x→y∈m→yb ops M x y=true
 |[],m,x,y,h,b,hy=>by
  simp only[jq,yf,jk]at h;obtain⟨i,c⟩:=x;cases c with
  |x=>exact absurd rfl b
  |d=>exact jD.1 h.1 y hy
  |r=>exact jD.1 h.1 y hy
  |w=>exact jD.1 h.1 y hy
 |z::l,m,x,y,h,b,hy=>by
  simp only[jy,yf,jk]at h;exact qeX h.2 b hy
theorem qol{M:Array Nat}:∀{l m:List (Nat×Cls)}{i:Nat}{y:Nat×Cls},yf ops M (l++(i,.x)::m)=true→y∈m→(∀j,zab m=some j→y.1≠j∧(M.getD y.1 0).testBit j=false)→yb ops M (i,.x) y=true
 |[],m,i,y,h,hy,b=>by
  simp only[jq,yf,jk]at h;refine jD.1 h.1 y ?_;unfold zcn;split
  rename_i j c
  obtain⟨d,e⟩:=b j c;exact vS.2 ⟨hy,by rw[e];simpa using d⟩;exact hy
 |g::l,m,i,y,h,hy,b=>by
  simp only[jy,yf,jk]at h;exact qol h.2 hy b
end
def za3(P:Program)(ops:Array Oper)(σ:St)(e:PE):Prop:=(yW ops e.E e.o=some false∧e.V= .undef)∨(yW ops e.E e.o=some true∧((e.c= .d∧zi P e.o (ev e.E) e.V)∨(e.c= .r∧zp P e.o (ev e.E) σ fun d' σ'=>d'=e.V∧σ'=σ)))
section
variable{P:Program}{ops:Array Oper}{Q:Env→St→Prop}
theorem zbt{X:Env→D→St→Prop}(g:Env)(σ:St):∀(l:List (Nat×Cls))(E:Env),Run P ops X Q l E σ→∃(new:List PE)(l':List (Nat×Cls)),l=new.map (fun e=>(e.i,e.c))++l'∧Run P ops X Q l' (yp E new) σ∧
 (∀d1 e d2,new=d1++e::d2→e.E=yp E d1∧ops[e.i]? =some e.o∧za3 P ops σ e∧e.c.isW=false)∧(l'=[]∨∃i c q,l'=(i,c)::q∧c.isW=true)
 |[],E,h=>⟨[],[],rfl,h,fun d1 e d2 b=>by simp at b,.inl rfl⟩
 |(i,c)::l,E,h=>by
  have t:=h;obtain⟨o,u,h⟩:=h;cases j:c.isW with
  |true=>exact⟨[],(i,c)::l,rfl,t,fun d1 e d2 b=>by simp at b,.inr ⟨i,c,l,rfl,j⟩⟩
  |false=>
   have key:∃V,za3 P ops σ ⟨i,c,o,E,V⟩∧Run P ops X Q l (E.put o.dst V) σ:=by
    rcases h with⟨hw,h⟩|⟨hw,h⟩|⟨_,_,_,_,_,_,_,hq⟩
    exact⟨.undef,.inl ⟨hw,rfl⟩,h⟩;rotate_left
    rw[j]at hq;cases hq;cases c with
    |d=>obtain⟨d,hs,n⟩:=h;exact⟨d,.inr ⟨hw,.inl ⟨rfl,hs⟩⟩,n⟩
    |r=>obtain⟨d,hs,n⟩:=h;exact⟨d,.inr ⟨hw,.inr ⟨rfl,hs⟩⟩,n⟩
    |w=>cases j
    |x=>cases j
   obtain⟨V,v,n⟩:=key;obtain⟨new,l',z,A,B,C⟩:=zbt g σ l _ n;refine⟨⟨i,c,o,E,V⟩::new,l',by simp[z],by simpa[zS]using A,fun d1 e d2 b=>?_,C⟩;cases d1 with
   |nil=>
    simp only[jq,List.cons.injEq]at b;obtain⟨rfl,_⟩:=b;exact⟨rfl,u,v,j⟩
   |cons x d1=>
    simp only[jy,List.cons.injEq]at b;obtain⟨rfl,b⟩:=b;obtain⟨F,G⟩:=B d1 e d2 b;exact⟨by rw[F];simp[zS],G⟩
end
section
variable{P:Program}{ops:Array Oper}{Q:Env→St→Prop}
theorem qh7{M:Array Nat}{x y:Nat×Cls}(h:yb ops M x y=true)(hb:(M.getD y.1 0).testBit x.1=false):x.2.isW=false∧¬(x.2= .r∧y.2.isW=true)∧yx ops x.1 y.1=true:=by
 unfold yb at h;rw[hb]at h;simp only[vR,jk,Bool.not_eq_true',Bool.and_eq_false_imp,beq_iff_eq]at h;refine⟨h.1.1,fun b=>?_,h.2⟩;have:=h.1.2 b.1;rw[b.2]at this;cases this
theorem qbP{b:Array Bool}{i:Nat}(hi:i<b.size)(j:Nat):Tof (b.setIfInBounds i true) j=if j=i then true else Tof b j:=by
 unfold Tof;by_cases h:j=i;subst h;simp[hi];rw[if_neg h,Array.getD_eq_getD_getElem?,Array.getD_eq_getD_getElem?,Jb (Ne.symm h)]
structure Mid(P:Program)(ops:Array Oper)(X:Env→D→St→Prop)(Q:Env→St→Prop)(K:Ctx)(n:Nat)(m:Md)(T:List (List (Nat×Cls)))(env0:Env)(done:List PE)(l:List (Nat×Cls))(listed:Array Bool)(σ:St)(a:Act)(w:World):Prop where
 ok:∀t∈T,zah ops (done.map (fun e=>(e.i,e.c))++(l++t))=true
 nonem:∃t,t∈T
 chain:∀d1 e d2,done=d1++e::d2→e.E=yp env0 d1∧ops[e.i]? =some e.o∧(Tof listed e.i=false→za3 P ops σ e∧e.c.isW=false)
 rest:Run P ops X (fun e s=>∀t∈T,Run P ops X Q t e s) l (yp env0 done) σ
 head:l=[]∨∃i c l',l=(i,c)::l'∧c.isW=true
 thead:∀t∈T,t=[]∨∃i c t',t=(i,c)::t'∧c.isW=true
 tpair:∀t∈T,∀i t' j,t=(i,.x)::t'→zab t'=some j→∃t2∈T,∃t2',t2=(j,.x)::t2'
 lx:∀x∈l,x.2≠.x
 tx:∀t∈T,∀x∈t.tail,x.2≠.x
 new:∀x∈l,Tof listed x.1=false
 tnew:∀t∈T,∀x∈t,Tof listed x.1=false
 down:Down ops listed
 size:listed.size=ops.size
 good:Good K n m (zS (Tof listed) env0 done) σ a w
def left(ord:List (Nat×Cls))(b:Array Bool):Nat:=(ord.filter fun x=>!Tof b x.1).length
theorem qtI{ord:List (Nat×Cls)}{b:Array Bool}{i:Nat}{c:Cls}(hn:(ord.map (·.1)).Nodup)(hm:(i,c)∈ord)(hi:i<b.size)(l:Tof b i=false):left ord (b.setIfInBounds i true)+1=left ord b:=by
 unfold left;induction ord with
 |nil=>cases hm
 |cons x ord n=>
  simp only[jm,vd]at hn;by_cases d:x.1=i;have g:∀y∈ord,y.1≠i:=fun y hy e=>hn.1 (by rw[d,←e];exact jM hy);have q:ord.filter (fun x=>!Tof (b.setIfInBounds i true) x.1)=ord.filter (fun x=>!Tof b x.1):=List.filter_congr fun y hy=>by rw[qbP hi,if_neg (g y hy)]
  rw[Jm,Jm,d,qbP hi,if_pos rfl,l,q];simp;have j:(i,c)∈ord:=by
   rcases jx.1 hm with h|h
   exact absurd (by rw[←h]) d;exact h
  have:=n hn.2 j;rw[Jm,Jm,qbP hi,if_neg d];split
  simp only[jg];omega;exact this
def yG(n:Nat)(b:Array Bool):Nat:=left ((List.range n).map fun i=>(i,Cls.d)) b
theorem qzS{X:Env→D→St→Prop}{n:Nat}{md:Md}(hX:∀e d τ,X e d τ→X [] d τ∧md.rd=none){K:Ctx}{g:Env}(hok:yw ops n=true):
 ∀(fuel:Nat)(T:List (List (Nat×Cls)))(done:List PE)(l:List (Nat×Cls))(b:Array Bool)(σ:St)(a:Act)(w:World),Mid P ops X Q K n md T g done l b σ a w→yG ops.size b=fuel→
  wpAnyIn (fw md.rd) 0 P .any ops (zbd P K n md X Q) fuel b a w:=by
 intro fuel;induction fuel with
 |zero=>
  intro T done l b σ a w m h0;obtain⟨t0,U⟩:=m.nonem;have hA:=m.ok t0 U;obtain⟨ord,O⟩:∃ord,ord=done.map (fun e=>(e.i,e.c))++(l++t0):=⟨_,rfl⟩
  rw[←O]at hA;have z:done.map (fun e=>(e.i,e.c))++(l++t0)=ord:=O.symm;simp only[zah,jk]at hA;obtain⟨⟨⟨hM,hL⟩,hP⟩,hI⟩:=hA;simp only[zaB,jk,decide_eq_true_eq]at hI;obtain⟨⟨hI1,hI2⟩,L⟩:=hI;have hin:∀i,i<ops.size→∃c,(i,c)∈ord:=fun i hi=>by
   obtain⟨x,q,he⟩:=vC.1 (jD.1 hI1 i (by simpa using hi));exact⟨x.2,by rw[←(beq_iff_eq.1 he)];exact q⟩
  have hlt:∀x∈ord,x.1<ops.size:=fun x q=>by simpa using jD.1 hI2 x q
  have S:∀x∈ord,Tof b x.1=true:=fun x q=>by
   cases hT:Tof b x.1 with
   |true=>rfl
   |false=>
    have:(x.1,Cls.d)∈((List.range ops.size).map fun i=>(i,Cls.d)).filter fun x=>!Tof b x.1:=vS.2 ⟨jt.2 ⟨x.1,by simpa using hlt x q,rfl⟩,by simp[hT]⟩;have:=List.length_pos_of_mem this;unfold yG left at h0;omega
  refine⟨?_,.inl ⟨rfl,?_⟩⟩;refine JP.2 fun i hi=>?_;obtain⟨hun,o,N,_⟩:=mem_ready.1 hi;have hi':=(jL.1 N).1;obtain⟨c,hc⟩:=hin i hi';have:=S _ hc;unfold Tof at this;have hs:i<b.size:=by rw[m.size];exact hi'
  simp[hs]at this hun;rw[this]at hun;cases hun;have hl:l=[]:=by
   rcases m.head with h|⟨i,c,l',h,_⟩
   exact h;have hm:(i,c)∈l:=by rw[h];simp
   have h1:=m.new _ hm;rw[S _ (by rw[←z];exact jB _ (jz _ hm))]at h1;cases h1
  have H:t0=[]:=by
   rcases m.thead t0 U with h|⟨i,c,l',h,_⟩
   exact h;have hm:(i,c)∈t0:=by rw[h];simp
   have h1:=m.tnew t0 U _ hm;rw[S _ (by rw[←z];exact jB _ (jB _ hm))]at h1;cases h1
  obtain⟨p,g1,g2,g3,g4⟩:=m.good;have hr:=m.rest;rw[hl]at hr;have hr:=hr t0 U;rw[H]at hr;have he:zS (Tof b) g done=yp g done:=qe6 fun e he=>S (e.i,e.c) (by rw[←z];exact jz _ (jM he));exact⟨_,σ,p,hr,g1,he▸g2,g3,g4⟩
 |succ fuel ih=>
  intro T done l b σ a w m h0;obtain⟨t0,U⟩:=m.nonem;have hA:=m.ok t0 U;obtain⟨ord,O⟩:∃ord,ord=done.map (fun e=>(e.i,e.c))++(l++t0):=⟨_,rfl⟩
  rw[←O]at hA;have z:done.map (fun e=>(e.i,e.c))++(l++t0)=ord:=O.symm;simp only[zah,jk]at hA;obtain⟨⟨⟨hM,hL⟩,hP⟩,hI⟩:=hA;simp only[zaB,jk,decide_eq_true_eq]at hI;obtain⟨⟨hI1,hI2⟩,L⟩:=hI;have hin:∀i,i<ops.size→∃c,(i,c)∈ord:=fun i hi=>by
   obtain⟨x,q,he⟩:=vC.1 (jD.1 hI1 i (by simpa using hi));exact⟨x.2,by rw[←(beq_iff_eq.1 he)];exact q⟩
  have hlt:∀x∈ord,x.1<ops.size:=fun x q=>by simpa using jD.1 hI2 x q
  obtain⟨p,g1,g2,g3,g4⟩:=m.good;have hmask:=fun k o N S j hj=>qnr (ops:=ops) hM m.down _ k o rfl N S j hj;refine⟨fun hnone=>?_,fun i hi=>?_⟩;exfalso
  -- one that has not come up, the first of them
  have hex:∃i,i<ops.size∧Tof b i=false:=by
   have:0<yG ops.size b:=by omega
   unfold yG left at this;obtain⟨x,q⟩:=List.exists_mem_of_length_pos this;obtain⟨hx1,hx2⟩:=vS.1 q;obtain⟨y,hy,rfl⟩:=jt.1 hx1;exact⟨y,by simpa using hy,by simpa using hx2⟩
  obtain⟨i,hi1,hi2⟩:=hex;have:∀n k,(zbR ops.size (ord.map (·.1))).getD k 0=n→k<ops.size→Tof b k=false→False:=by
   intro n;induction n using Nat.strongRecOn with
   |_ n ihk=>
    intro k hkn hk1 hk2;have hr:k∈Region.ready .any ops b:=by
     refine mem_ready.2 ⟨?_,ops[k],vB hk1,fun e he hb=>?_⟩;have hs:k<b.size:=by rw[m.size];exact hk1
     unfold Tof at hk2;simp[hs]at hk2⊢;exact hk2;cases hT:Tof b e.on with
     |true=>exact hT
     |false=>
      have hl:=jD.1 hL k (by simpa using hk1);simp only[vB hk1]at hl;have:=(Array.all_eq_true_iff_forall_mem.1 hl) e he;simp only[hb,j5,vR,decide_eq_true_eq]at this;exact(ihk _ (by rw[←hkn];exact this.1) e.on rfl this.2 hT).elim
    rw[hnone]at hr;cases hr
  exact this _ i rfl hi1 hi2
  · obtain⟨hun,o,N,hdeps⟩:=mem_ready.1 hi
    have hi':=(jL.1 N).1;have hs:i<b.size:=by rw[m.size];exact hi'
    have hT:Tof b i=false:=by
     unfold Tof;simp[hs]at hun⊢;exact hun
    obtain⟨c,hc⟩:=hin i hi';have hdown:Down ops (b.setIfInBounds i true):=fun k o' ho' hk e he hb=>by
     rw[qbP hs]at hk⊢;split
     · rfl
     · by_cases hki:k=i
       · subst hki
         rw[N]at ho';injection ho' with ho'
         subst ho';exact hdeps e he hb
       · rw[if_neg hki]at hk
         exact m.down k o' ho' hk e he hb
    have hleft:=qtI (ord:=(List.range ops.size).map fun i=>(i,Cls.d)) (c:=Cls.d) (by rw[jR];have:(Prod.fst∘fun i:Nat=>(i,Cls.d))=id:=rfl;rw[this,List.map_id];exact List.nodup_range) (jt.2 ⟨i,by simpa using hi',rfl⟩) hs hT
    -- who must have come up, who cannot have
    have before:∀x y:Nat×Cls,x.1<ops.size→yb ops (yI ops (ord.map (·.1))) x y=true→y.1=i→Tof b x.1=false→x.2.isW=false∧¬(x.2= .r∧y.2.isW=true)∧yx ops x.1 y.1=true:=fun x y q hp hy I=>qh7 hp (by
     cases hb:((yI ops (ord.map (·.1))).getD y.1 0).testBit x.1 with
     |false=>rfl
     |true=>
      rw[hy]at hb;rw[hmask i o N hdeps x.1 q hb]at I;cases I)
    have behind:∀x y:Nat×Cls,y.1<ops.size→yb ops (yI ops (ord.map (·.1))) x y=true→x.1=i→Tof b y.1=true→x.2.isW=false∧¬(x.2= .r∧y.2.isW=true)∧yx ops x.1 y.1=true:=fun x y hy hp q H=>qh7 hp (by
     cases hb:((yI ops (ord.map (·.1))).getD y.1 0).testBit x.1 with
     |false=>rfl
     |true=>
      have h1:=hmask y.1 _ (vB hy) (m.down y.1 _ (vB hy) H) x.1 (by rw[q];exact hi') hb;rw[q,hT]at h1;cases h1)
    have Z:∀{j k:Nat}{x y:Oper},yx ops j k=true→ops[j]? =some x→ops[k]? =some y→x.apart ops y=true:=fun{j k x y} h q hy=>by
     unfold yx at h;rw[q,hy]at h;exact h
    rw[←z]at hc;rcases jl.1 hc with hc'|hc'
    · --it is pending
      obtain⟨e,he,hec⟩:=jt.1 hc';obtain⟨d1,d2,F⟩:=ve he;obtain rfl:e.i=i:=congrArg Prod.fst hec;obtain⟨hE,heo,hpend⟩:=m.chain d1 e d2 F;obtain⟨hp,hcw⟩:=hpend hT;have heq:e.o=o:=by rw[heo]at N;injection N
      have hunl:∀x∈done,Tof b x.i=false→x.c≠.x:=fun x q I e=>by
       obtain⟨u1,u2,hu⟩:=ve q;have:=((m.chain u1 x u2 hu).2.2 I).2;rw[e]at this;cases this
      have hpair1:∀x∈d1,Tof b x.i=false→yb ops (yI ops (ord.map (·.1))) (x.i,x.c) (e.i,e.c)=true:=fun x q I=>by
       obtain⟨u1,u2,hu⟩:=ve q;have:yf ops (yI ops (ord.map (·.1))) ((u1.map fun e=>(e.i,e.c))++(x.i,x.c)::((u2.map fun e=>(e.i,e.c))++(e.i,e.c)::((d2.map fun e=>(e.i,e.c))++(l++t0))))=true:=by
        rw[←hP,←z,F,hu];simp
       exact qeX this (hunl x (by rw[F];exact jz _ q) I) og
      have hpair2:∀x∈d2,yb ops (yI ops (ord.map (·.1))) (e.i,e.c) (x.i,x.c)=true:=fun x q=>by
       have:yf ops (yI ops (ord.map (·.1))) ((d1.map fun e=>(e.i,e.c))++(e.i,e.c)::((d2.map fun e=>(e.i,e.c))++(l++t0)))=true:=by
        rw[←hP,←z,F];simp
       exact qeX this (fun h=>by have:=hcw;simp only at h;rw[h]at this;cases this) (jz _ (jM q))
      have G:∀x∈done,x.i<ops.size∧ops[x.i]? =some x.o:=fun x q=>by
       obtain⟨u1,u2,hu⟩:=ve q;have:=(m.chain u1 x u2 hu).2.1;exact⟨(jL.1 this).1,this⟩
      have hin1:∀x∈d1,x∈done:=fun x q=>by rw[F];exact jz _ q
      have hin2:∀x∈d2,x∈done:=fun x q=>by rw[F];exact jB _ (jp _ q)
      have hlook:∀t∈o.looksAt ops,lk (zS (Tof b) g done) t=lk e.E t:=fun t H=>by
       rw[F,qhi];have hcons:zS (Tof b) (zS (Tof b) g d1) (e::d2)=zS (Tof b) (zS (Tof b) g d1) d2:=by simp[zS,hT]
       rw[hcons,qgT,hE]
       · refine qlB (fun x q hd=>?_) rfl
         cases I:Tof b x.i with
         |true=>rfl
         |false=>
          have:=(before (x.i,x.c) (e.i,e.c) (G x (hin1 x q)).1 (hpair1 x q I) rfl I).2.2;have h5:=Z this (G x (hin1 x q)).2 N;exact absurd H ((Oper.apart_spec h5).1 t hd)
       · intro x q I hd
         have:=(behind (e.i,e.c) (x.i,x.c) (G x (hin2 x q)).1 (hpair2 x q) rfl I).2.2;have h5:=Z this N (G x (hin2 x q)).2;exact(Oper.apart_spec h5).2.2 t hd H
      have M:∀t∈o.looksAt ops,∀d,lk e.E t=some d→Rep p w d (a.tmps.getD t Go.undef):=fun t H d hd=>g2 t d (by rw[hlook t H];exact hd);have hput:∀t,lk (zS (Tof (b.setIfInBounds e.i true)) g done) t=lk ((zS (Tof b) g done).put o.dst e.V) t:=fun t=>by
       have hne1:∀x∈d1,x.i≠e.i:=fun x q hxe=>by
        rw[←z,F]at L;simp only[jJ,jm,jR]at L;have:=jT.1 (jT.1 L).1;exact this.2.2 _ (jM q) _ (je ..) hxe
       have hne2:∀x∈d2,x.i≠e.i:=fun x q hxe=>by
        rw[←z,F]at L;simp only[jJ,jm,jR]at L;have:=(jT.1 (jT.1 L).1).2.1;simp only[vd]at this;exact this.1 (jt.2 ⟨x,q,hxe⟩)
       have e1:zS (Tof (b.setIfInBounds e.i true)) g done=zS (Tof b) ((zS (Tof b) g d1).put o.dst e.V) d2:=by
        rw[F,qhi,qe6 (T:=Tof (b.setIfInBounds e.i true)) (T':=Tof b) (l:=d1) fun x q=>by rw[qbP hs,if_neg (hne1 x q)]];have:zS (Tof (b.setIfInBounds e.i true)) (zS (Tof b) g d1) (e::d2)=zS (Tof (b.setIfInBounds e.i true)) ((zS (Tof b) g d1).put o.dst e.V) d2:=by
         simp[zS,qbP hs,heq]
        rw[this];exact qe6 fun x q=>by rw[qbP hs,if_neg (hne2 x q)]
       have e2:zS (Tof b) g done=zS (Tof b) (zS (Tof b) g d1) d2:=by
        rw[F,qhi];simp[zS,hT]
       rw[e1,e2,qe0];by_cases hd:o.dst=some t
       · rw[if_pos hd,qgT,qe0,if_pos hd]
         intro x q I hxd;have:=(behind (e.i,e.c) (x.i,x.c) (G x (hin2 x q)).1 (hpair2 x q) rfl I).2.2;have h5:=Z this N (G x (hin2 x q)).2;exact(Oper.apart_spec h5).2.1 t hd hxd
       · rw[if_neg hd]
         have gen:∀(m:List PE)(A B:Env),lk A t=lk B t→lk (zS (Tof b) A m) t=lk (zS (Tof b) B m) t:=by
          intro m;induction m with
          |nil=>exact fun A B h=>h
          |cons x m ihm=>
           intro A B h;simp only[zS,vj];refine ihm _ _ ?_;split
           · simp only[qe0];split<;>simp[h]
           · exact h
         exact gen d2 _ _ (by rw[qe0,if_neg hd])
      have next:∀(a':Act)(w':World)(p':Addr→Prop)(v:Value),a'=a.put o.dst v→Rep p' w' e.V v→Inv K p' σ w'→zE p w p' w'→Mid P ops X Q K n md T g done l (b.setIfInBounds e.i true) σ a' w':=fun a' w' p' v ha' hv hi2 hg=>by
       have hnin:∀t∈T,∀x∈l++t,x.1≠e.i:=fun t H x q hxe=>by
        have hk:=m.ok t H;simp only[zah,jk,zaB,decide_eq_true_eq]at hk;have L:=hk.2.2;rw[jJ,jR]at L;exact(jT.1 L).2.2 _ (jM he) _ (jM q) hxe.symm
       refine⟨m.ok,m.nonem,fun u1 x u2 hu=>?_,m.rest,m.head,m.thead,m.tpair,m.lx,m.tx,fun x q=>?_,fun t H x q=>?_,hdown,by simpa using m.size,⟨p',hi2,fun t d H=>?_,?_,?_⟩⟩
       · obtain⟨q1,q2,q3⟩:=m.chain u1 x u2 hu
         refine⟨q1,q2,fun I=>q3 ?_⟩;rw[qbP hs]at I;split at I
         · cases I
         · exact I
       · rw[qbP hs,if_neg (hnin t0 U x (jz _ q)),m.new x q]
       · rw[qbP hs,if_neg (hnin t H x (jB _ q)),m.tnew t H x q]
       · rw[hput t]at H
         have hr':=(g2.grow hg).put (dst:=o.dst) hv fun t H=>vi (qhX hok N t H) g3;rw[ha'];exact hr' t d H
       · rw[ha',qjM];exact g3
       · rw[ha',qeV];exact g4
      unfold wpOpIn;simp only[N];have hlf:yG ops.size (b.setIfInBounds e.i true)=fuel:=by unfold yG at h0⊢;omega
      rcases hp with⟨hw,hV⟩|⟨hw,hp⟩
      · rw[heq]at hw
        rw[qdU M hw];simp only[va,if_false];exact⟨fun f _=>ql0 _ f,ih _ _ _ _ _ _ _ (next _ w p Go.undef rfl (by rw[hV];simp only[Rep]) g1 (zE.refl p w)) hlf⟩
      · rw[heq]at hw
        rw[qdU M hw];simp only[if_true];have hst:zp P o (ev e.E) σ fun d' σ'=>d'=e.V∧σ'=σ:=by
         rw[←heq];rcases hp with⟨_,hp⟩|⟨_,hp⟩
         · exact hp σ
         · exact hp
        refine qix (fun a' w' hh=>?_) (fun _ _ _ hh=>hh.elim) (hst.y md.rd K p a w g1 (qkt hok N M));obtain⟨v,d,σ',p',ha',⟨rfl,rfl⟩,hv,hi2,hg⟩:=hh;exact ih _ _ _ _ _ _ _ (next a' w' p' v ha' hv hi2 hg) hlf
    · --it is the next one of our order
      obtain⟨T',ci,C,hW,hT'ok,hT'some,hT'run,hT'head,hT'pair,hT'lx,hT'tx,hT'new,hT'tnew⟩:∃(T':List (List (Nat×Cls)))(ci:Cls)(C:List (Nat×Cls)),ci.isW=true∧(∀t∈T',zah ops (done.map (fun e=>(e.i,e.c))++((i,ci)::C++t))=true)∧(∃t,t∈T')∧Run P ops X (fun e s=>∀t∈T',Run P ops X Q t e s) ((i,ci)::C) (yp g done) σ∧(∀t∈T',t=[]∨∃i c t',t=(i,c)::t'∧c.isW=true)∧(∀t∈T',∀i t' j,t=(i,.x)::t'→zab t'=some j→∃t2∈T',∃t2',t2=(j,.x)::t2')∧(∀x∈C,x.2≠.x)∧(∀t∈T',∀x∈t.tail,x.2≠.x)∧(∀x∈C,Tof b x.1=false)∧(∀t∈T',∀x∈t,Tof b x.1=false):=by
       rcases m.head with hl|⟨i0,c0,l',hl,hc0⟩
       · --one of the ends
         subst hl;have hend:∀t∈T,∀ci t',t=(i,ci)::t'→ci.isW=true→∃(T':List (List (Nat×Cls)))(ci:Cls)(C:List (Nat×Cls)),ci.isW=true∧(∀t∈T',zah ops (done.map (fun e=>(e.i,e.c))++((i,ci)::C++t))=true)∧(∃t,t∈T')∧Run P ops X (fun e s=>∀t∈T',Run P ops X Q t e s) ((i,ci)::C) (yp g done) σ∧(∀t∈T',t=[]∨∃i c t',t=(i,c)::t'∧c.isW=true)∧(∀t∈T',∀i t' j,t=(i,.x)::t'→zab t'=some j→∃t2∈T',∃t2',t2=(j,.x)::t2')∧(∀x∈C,x.2≠.x)∧(∀t∈T',∀x∈t.tail,x.2≠.x)∧(∀x∈C,Tof b x.1=false)∧(∀t∈T',∀x∈t,Tof b x.1=false):=fun t H ci t' he hW=>by
          subst he;refine⟨[[]],ci,t',hW,fun u hu=>?_,⟨[],jr.2 rfl⟩,qhj (fun e s h u hu=>by rw[jr.1 hu];exact h) _ _ _ (m.rest _ H),fun u hu=>.inl (jr.1 hu),fun u hu i t'' j h _=>(by rw[jr.1 hu]at h;cases h),m.tx _ H,fun u hu x q=>(by rw[jr.1 hu]at q;cases q),fun x q=>m.tnew _ H x (jp _ q),fun u hu x q=>(by rw[jr.1 hu]at q;cases q)⟩;rw[jr.1 hu,jv];exact m.ok _ H
         rcases m.thead t0 U with H|⟨i0,c0,t0',H,hc0⟩
         · rw[H]at hc';cases hc'
         · by_cases hii:i=i0
           · subst hii
             exact hend t0 U c0 t0' H hc0
           · rw[jq,H]at hc'
             rcases jx.1 hc' with h|h
             · exact absurd (congrArg Prod.fst h) hii
             · have hx0:i0<ops.size:=hlt (i0,c0) (by rw[←z,H];simp)
               have hf0:Tof b i0=false:=m.tnew t0 U (i0,c0) (by rw[H];simp);have hP':yf ops (yI ops (ord.map (·.1))) ((done.map fun e=>(e.i,e.c))++(i0,c0)::t0')=true:=by
                rw[←hP,←z,H];simp
               have habs:yb ops (yI ops (ord.map (·.1))) (i0,c0) (i,c)=true→False:=fun hp=>by
                have:=(before (i0,c0) (i,c) hx0 hp rfl hf0).1;simp only at this;rw[hc0]at this;cases this
               by_cases hcx:c0= .x
               · subst hcx
                 cases hfw:zab t0' with
                 |none=>exact(habs (qol hP' h fun j hj=>by rw[hfw]at hj;cases hj)).elim
                 |some j=>
                  by_cases hij:i=j
                  · subst hij
                    obtain⟨t2,ht2,t2',h2⟩:=m.tpair t0 U i0 t0' i H hfw;exact hend t2 ht2 .x t2' h2 rfl
                  · obtain⟨cj,hcj⟩:=qoU hfw
                    have hjm:(j,cj)∈t0:=by rw[H];exact jp _ hcj
                    have hjf:Tof b j=false:=m.tnew t0 U (j,cj) hjm;have hjlt:j<ops.size:=hlt (j,cj) (by rw[←z];exact jB _ (jB _ hjm));cases hb:((yI ops (ord.map (·.1))).getD i 0).testBit j with
                    |true=>
                     rw[hmask i o N hdeps j hjlt hb]at hjf;cases hjf
                    |false=>exact(habs (qol hP' h fun j' hj'=>by
                     rw[hfw]at hj';injection hj' with hj'
                     subst hj';exact⟨hij,hb⟩)).elim
               · exact(habs (qeX hP' hcx h)).elim
       · subst hl
         have hii:i=i0:=by
          rcases jx.1 (by simpa using hc':(i,c)∈(i0,c0)::(l'++t0))with h|h
          · exact congrArg Prod.fst h
          · exfalso
            have hx0:i0<ops.size:=hlt (i0,c0) (by rw[←z];simp);have hP':yf ops (yI ops (ord.map (·.1))) ((done.map fun e=>(e.i,e.c))++(i0,c0)::(l'++t0))=true:=by
             rw[←hP,←z];simp
            have hp:=qeX hP' (m.lx (i0,c0) (je ..)) h;have:=(before (i0,c0) (i,c) hx0 hp rfl (m.new (i0,c0) (je ..))).1;simp only at this;rw[hc0]at this;cases this
         subst hii;exact⟨T,c0,l',hc0,m.ok,m.nonem,m.rest,m.thead,m.tpair,fun x q=>m.lx x (jp _ q),m.tx,fun x q=>m.new x (jp _ q),m.tnew⟩
      clear hc hc';obtain⟨t1,ht1⟩:=hT'some;have hA1:=hT'ok t1 ht1;obtain⟨ord,O⟩:∃ord,ord=done.map (fun e=>(e.i,e.c))++((i,ci)::C++t1):=⟨_,rfl⟩
      rw[←O]at hA1;have z:done.map (fun e=>(e.i,e.c))++((i,ci)::C++t1)=ord:=O.symm;simp only[zah,jk]at hA1;obtain⟨⟨⟨hM,hL⟩,hP⟩,hI⟩:=hA1;simp only[zaB,jk,decide_eq_true_eq]at hI;obtain⟨⟨hI1,hI2⟩,L⟩:=hI;have hin:∀i,i<ops.size→∃c,(i,c)∈ord:=fun i hi=>by
       obtain⟨x,q,he⟩:=vC.1 (jD.1 hI1 i (by simpa using hi));exact⟨x.2,by rw[←(beq_iff_eq.1 he)];exact q⟩
      have hlt:∀x∈ord,x.1<ops.size:=fun x q=>by simpa using jD.1 hI2 x q
      have hmask:=fun k o N S j hj=>qnr (ops:=ops) hM m.down _ k o rfl N S j hj;have before:∀x y:Nat×Cls,x.1<ops.size→yb ops (yI ops (ord.map (·.1))) x y=true→y.1=i→Tof b x.1=false→x.2.isW=false∧¬(x.2= .r∧y.2.isW=true)∧yx ops x.1 y.1=true:=fun x y q hp hy I=>qh7 hp (by
       cases hb:((yI ops (ord.map (·.1))).getD y.1 0).testBit x.1 with
       |false=>rfl
       |true=>
        rw[hy]at hb;rw[hmask i o N hdeps x.1 q hb]at I;cases I)
      have hunl:∀x∈done,Tof b x.i=false→x.c≠.x:=fun x q I e=>by
       obtain⟨u1,u2,hu⟩:=ve q;have:=((m.chain u1 x u2 hu).2.2 I).2;rw[e]at this;cases this
      have hpair:∀x∈done,Tof b x.i=false→yb ops (yI ops (ord.map (·.1))) (x.i,x.c) (i,ci)=true:=fun x q I=>by
       obtain⟨u1,u2,hu⟩:=ve q;have:yf ops (yI ops (ord.map (·.1))) ((u1.map fun e=>(e.i,e.c))++(x.i,x.c)::((u2.map fun e=>(e.i,e.c))++(i,ci)::(C++t1)))=true:=by
        rw[←hP,←z,hu];simp
       exact qeX this (hunl x q I) og
      have G:∀x∈done,x.i<ops.size∧ops[x.i]? =some x.o:=fun x q=>by
       obtain⟨u1,u2,hu⟩:=ve q;have:=(m.chain u1 x u2 hu).2.1;exact⟨(jL.1 this).1,this⟩
      have hne:∀x∈done,x.i≠i:=fun x q hxe=>by
       rw[←z]at L;simp only[jJ,jR,jm,jy]at L;exact(jT.1 L).2.2 _ (jM q) _ (je ..) hxe
      have hlook:∀t∈o.looksAt ops,lk (zS (Tof b) g done) t=lk (yp g done) t:=fun t H=>
       qlB (fun x q hd=>by
        cases I:Tof b x.i with
        |true=>rfl
        |false=>
         have:=(before (x.i,x.c) (i,ci) (G x q).1 (hpair x q I) rfl I).2.2;have h5:=Z this (G x q).2 N;exact absurd H ((Oper.apart_spec h5).1 t hd)) rfl
      have M:∀t∈o.looksAt ops,∀d,lk (yp g done) t=some d→Rep p w d (a.tmps.getD t Go.undef):=fun t H d hd=>g2 t d (by rw[hlook t H];exact hd);have next:∀(a':Act)(w':World)(p':Addr→Prop)(v:Value)(V:D)(σ':St),a'=a.put o.dst v→Rep p' w' V v→Inv K p' σ' w'→zE p w p' w'→Run P ops X (fun e s=>∀t∈T',Run P ops X Q t e s) C ((yp g done).put o.dst V) σ'→
       ∃done' l'',Mid P ops X Q K n md T' g done' l'' (b.setIfInBounds i true) σ' a' w':=fun a' w' p' v V σ' ha' hv hi2 hg J=>by
       obtain⟨new,l'',h1,h2,h3,h4⟩:=zbt g σ' C _ J;have heA:yp g (done++[⟨i,ci,o,yp g done,V⟩])=(yp g done).put o.dst V:=by simp[zS]
       have hndT:∀t∈T',(done.map (fun e=>e.i)++i::(new.map (fun e=>e.i)++(l''.map (·.1)++t.map (·.1)))).Nodup:=fun t H=>by
        have hk:=hT'ok t H;simp only[zah,jk,zaB,decide_eq_true_eq]at hk;have:=hk.2.2;rw[h1]at this;simpa[jR,Function.comp_def]using this
       have hnd':=hndT t1 ht1;have hnd2:=jT.1 hnd';have hnd3:=vd.1 hnd2.2.1;refine⟨done++⟨i,ci,o,yp g done,V⟩::new,l'',⟨fun t H=>by have:=hT'ok t H;rw[h1]at this;simpa using this,⟨t1,ht1⟩,fun u1 x u2 hu=>?_,?_,h4,hT'head,hT'pair,fun x q=>hT'lx x (by rw[h1];exact jB _ q),hT'tx,fun x q=>?_,fun t H x q=>?_,hdown,by simpa using m.size,⟨p',hi2,fun t d H=>?_,?_,?_⟩⟩⟩
       · --the chain
         rcases List.append_eq_append_iff.1 hu with⟨v1,hv1,Y⟩|⟨v1,hv1,Y⟩
         · cases v1 with
           |nil=>
            simp only[jq,List.cons.injEq]at Y;obtain⟨rfl,rfl⟩:=Y;simp only[jv]at hv1;subst hv1;exact⟨rfl,N,fun I=>by rw[qbP hs,if_pos rfl]at I;cases I⟩
           |cons y v1=>
            simp only[jy,List.cons.injEq]at Y;obtain⟨rfl,Y⟩:=Y;obtain⟨q1,q2,q3,q4⟩:=h3 v1 x u2 Y;refine⟨?_,q2,fun _=>⟨q3,q4⟩⟩;rw[q1,hv1];simp[zS]
         · cases v1 with
           |nil=>
            simp only[jq,List.cons.injEq]at Y;obtain⟨rfl,rfl⟩:=Y;simp only[jv]at hv1;subst hv1;exact⟨rfl,N,fun I=>by rw[qbP hs,if_pos rfl]at I;cases I⟩
           |cons y v1=>
            simp only[jy,List.cons.injEq]at Y;obtain⟨rfl,Y⟩:=Y;have hxin:x∈done:=by rw[hv1];simp
            obtain⟨q1,q2,q3⟩:=m.chain u1 x v1 hv1;refine⟨q1,q2,fun I=>?_⟩;rw[qbP hs,if_neg (hne x hxin)]at I;obtain⟨q4,q5⟩:=q3 I;refine⟨?_,q5⟩;have hnr:=(before (x.i,x.c) (i,ci) (G x hxin).1 (hpair x hxin I) rfl I).2.1;rcases q4 with q4|⟨q4,q6⟩
            · exact .inl q4
            · refine .inr ⟨q4,?_⟩
              rcases q6 with q6|⟨q6,_⟩
              · exact .inl q6
              · exact absurd ⟨q6,hW⟩ hnr
       · have hee:yp g (done++(⟨i,ci,o,yp g done,V⟩:PE)::new)=yp ((yp g done).put o.dst V) new:=by
          rw[←heA];simp[zS]
         rw[hee];exact h2
       · have hxi:x.1≠i:=fun e=>hnd3.1 (by rw[←e];exact jB _ (jz _ (jM q)))
         rw[qbP hs,if_neg hxi];exact hT'new x (by rw[h1];exact jB _ q)
       · have hxi:x.1≠i:=fun e=>(vd.1 (jT.1 (hndT t H)).2.1).1 (by rw[←e];exact jB _ (jB _ (jM q)))
         rw[qbP hs,if_neg hxi];exact hT'tnew t H x q
       · have hT':∀x∈done,Tof (b.setIfInBounds i true) x.i=Tof b x.i:=fun x q=>by rw[qbP hs,if_neg (hne x q)]
         have hnewf:∀x∈new,Tof (b.setIfInBounds i true) x.i=false:=fun x q=>by
          have hxi:x.i≠i:=fun e=>hnd3.1 (by rw[←e];exact jz _ (jM q));rw[qbP hs,if_neg hxi];exact hT'new (x.i,x.c) (by rw[h1];exact jz _ (jM q))
         rw[qhi,qe6 hT']at H;have hcons:zS (Tof (b.setIfInBounds i true)) (zS (Tof b) g done) (⟨i,ci,o,yp g done,V⟩::new)=zS (Tof (b.setIfInBounds i true)) ((zS (Tof b) g done).put o.dst V) new:=by simp[zS,qbP hs]
         rw[hcons,qgT (fun x q I=>by rw[hnewf x q]at I;cases I)]at H;have hr':=(g2.grow hg).put (dst:=o.dst) hv fun t H=>vi (qhX hok N t H) g3;rw[ha'];exact hr' t d H
       · rw[ha',qjM];exact g3
       · rw[ha',qeV];exact g4
      have hlf:yG ops.size (b.setIfInBounds i true)=fuel:=by unfold yG at h0⊢;omega
      unfold wpOpIn;simp only[N];obtain⟨o',ho',J⟩:=hT'run;obtain rfl:o'=o:=by rw[N]at ho';injection ho' with h;exact h.symm
      have J:(yW ops (yp g done) o'=some false∧Run P ops X (fun e s=>∀t∈T',Run P ops X Q t e s) C ((yp g done).put o'.dst .undef) σ)∨(yW ops (yp g done) o'=some true∧∃R,za5 P o' (ev (yp g done)) σ R∧∀d σ',R d σ'→Run P ops X (fun e s=>∀t∈T',Run P ops X Q t e s) C ((yp g done).put o'.dst d) σ')∨(yW ops (yp g done) o'=some true∧∃e d τ,X e d τ∧zcP P o' (ev (yp g done)) σ τ d):=by
       rcases J with J|J|⟨hw,e,d,τ,_,q,hdie,_⟩
       · exact .inl J
       rotate_left
       · exact .inr (.inr ⟨hw,e,d,τ,q,hdie⟩)
       refine .inr (.inl ?_);cases ci with
       |w=>exact J
       |x=>exact J
       |d=>cases hW
       |r=>cases hW
      rcases J with⟨hw,hk⟩|⟨hw,R,hst,hk⟩|⟨hw,e₀,d,τ,q,hdie⟩
      rotate_right
      · rw[qdU M hw]
        simp only[if_true];obtain⟨hx',hrd⟩:=hX e₀ d τ q;rw[hrd];refine qix (fun a' w' hh=>hh.elim) (fun e a' w' hh=>?_) (qgc (hdie K p a w g1 (qkt hok N M)));obtain⟨v,p',rfl,rfl,hv,hi2,hg⟩:=hh;exact .inr ⟨v,d,τ,p',[],rfl,hx',hv,hi2,fun t d' H=>(by cases H),g4⟩
      · rw[qdU M hw]
        simp only[va,if_false];obtain⟨done',l'',hm⟩:=next _ w p Go.undef .undef σ rfl (by simp only[Rep]) g1 (zE.refl p w) hk
        exact⟨fun f _=>ql0 _ f,ih _ _ _ _ _ _ _ hm hlf⟩
      · rw[qdU M hw]
        simp only[if_true];refine qix (fun a' w' hh=>?_) (fun _ _ _ hh=>hh.elim) (hst md.rd K p a w g1 (qkt hok N M));obtain⟨v,d,σ',p',ha',hR,hv,hi2,hg⟩:=hh;obtain⟨done',l'',hm⟩:=next a' w' p' v d σ' ha' hv hi2 hg (hk d σ' hR)
        exact ih _ _ _ _ _ _ _ hm hlf
theorem qzp{X:Env→D→St→Prop}{n:Nat}{md:Md}(hX:∀e d τ,X e d τ→X [] d τ∧md.rd=none){K:Ctx}{env:Env}{σ:St}(q:yw ops n=true)(T:List (List (Nat×Cls)))(ord:List (Nat×Cls))(E:∀t∈T,zah ops (ord++t)=true)(F:∃t,t∈T)(r:∀t∈T,t=[]∨∃i c l,t=(i,c)::l∧c.isW=true)
 (G:∀t∈T,∀i l j,t=(i,.x)::l→zab l=some j→∃t2∈T,∃u,t2=(j,.x)::u) (H:∀x∈ord,x.2≠.x) (v:∀t∈T,∀x∈t.tail,x.2≠.x) (h:Run P ops X (fun e s=>∀t∈T,Run P ops X Q t e s) ord env σ)
 {p:Addr→Prop} {a:Act} {w:World} (hi:Inv K p σ w) (hr:zD p w env a) (hn:n≤a.tmps.size) (hd:a.defers=md.marks):
 wpAnyIn (fw md.rd) 0 P .any ops (zbd P K n md X Q) ops.size (Array.replicate ops.size false) a w:=by
 obtain⟨new,l',A,I,J,L⟩:=zbt (P:=P) (Q:=fun e s=>∀t∈T,Run P ops X Q t e s) env σ ord env h;have g:∀i,Tof (Array.replicate ops.size false) i=false:=fun i=>by
  unfold Tof;rw[Array.getD_eq_getD_getElem?,Array.getElem?_replicate];split<;>rfl
 have b:yG ops.size (Array.replicate ops.size false)=ops.size:=by
  unfold yG left;rw[List.filter_eq_self.2 fun x _=>by rw[g];rfl];simp
 refine qzS hX (P:=P) (Q:=Q) (K:=K) (n:=n) q _ T new l' _ σ a w ⟨fun t M=>by have:=E t M;rw[A]at this;simpa using this,F,fun d1 e d2 r=>?_,I,L,r,G,fun x z=>H x (by rw[A];exact jB _ z),v,fun x _=>g _,fun t _ x _=>g _,fun V o _ B=>?_,by simp,⟨p,hi,?_,hn,hd⟩⟩ b
 · obtain⟨N,O,S,U⟩:=J d1 e d2 r
   exact⟨N,O,fun _=>⟨S,U⟩⟩
 · rw[g]at B;cases B
 · have:zS (Tof (Array.replicate ops.size false)) env new=env:=by
    have:∀(m:List PE),zS (Tof (Array.replicate ops.size false)) env m=env:=by
     intro m;induction m with
     |nil=>rfl
     |cons x m C=>simp only[zS,vj,g,va,if_false]at C⊢;exact C
    exact this new
   rw[this];exact hr
theorem qBc{m:Md}{f:FuncId}{fn:Func}{K:Ctx}{R:D→St→Prop}{k:List Item}{env:Env}{σ:St}{id:Nat}{l:List Oper}(hm:P.follows .mixedOrders=true)(hok:yw l.toArray fn.ntmps=true)(ord:List (Nat×Cls))(hA:zah l.toArray ord=true)
 (h:Run P l.toArray NX (ze m P f fn K R k) ord env σ) (hx:ord.all (fun x=>decide (x.2≠.x))=true:=by rfl):ze m P f fn K R (.code (.region id l.toArray true)::k) env σ:=
 qlz (Q:=ze m P f fn K R k) (X:=NX) (fun p a w hi hr hn hd=>wpIn_region_any hm (qzp (X:=NX) (fun _ _ _ h=>h.elim) (md:=m) (P:=P) (Q:=ze m P f fn K R k) (K:=K) (n:=fn.ntmps) hok [[]] ord (fun t ht=>by rw[jr.1 ht,jv];exact hA) ⟨[],jr.2 rfl⟩ (fun t ht=>.inl (jr.1 ht)) (fun t ht i t' j h _=>by rw[jr.1 ht]at h;cases h) (fun x hm=>by simpa using jD.1 hx x hm) (fun t ht x hm=>by rw[jr.1 ht]at hm;cases hm)
  (qhj (fun e s h t ht=>by rw[jr.1 ht];exact h) _ _ _ h) hi.drew (hr.grow (qdu p w)) hn hd)) (fun _ _ _ h=>h.elim) (fun _ _ h=>h)
theorem ga{m:Md}{f:FuncId}{fn:Func}{K:Ctx}{R:D→St→Prop}{k:List Item}{env:Env}{σ:St}{id:Nat}{l:List Oper}(ord:List (Nat×Cls))(h:Run P l.toArray NX (ze m P f fn K R k) ord env σ)(hm:P.follows .mixedOrders=true:=by kernel_rfl)(hok:yw l.toArray fn.ntmps=true:=by kernel_rfl)(hA:zah l.toArray ord=true:=by kernel_rfl)(hx:ord.all (fun x=>decide (x.2≠.x))=true:=by rfl):ze m P f fn K R (.code (.region id l.toArray true)::k) env σ:=qBc hm hok ord hA h hx
theorem qBX{f:FuncId}{fn:Func}{K:Ctx}{R:D→St→Prop}{k:List Item}{env:Env}{σ:St}{id:Nat}{l:List Oper}(hm:P.follows .mixedOrders=true)(hok:yw l.toArray fn.ntmps=true)(ord:List (Nat×Cls))(hA:zah l.toArray ord=true)
 (h:Run P l.toArray (fun _=>K.X) (Goes P f fn K R k) ord env σ) (hx:ord.all (fun x=>decide (x.2≠.x))=true:=by rfl):Goes P f fn K R (.code (.region id l.toArray true)::k) env σ:=
 qlz (Q:=Goes P f fn K R k) (X:=fun _=>K.X) (fun p a w hi hr hn hd=>wpIn_region_any hm (qzp (X:=fun _=>K.X) (fun _ _ _ h=>⟨h,rfl⟩) (md:=Md.top) (P:=P) (Q:=Goes P f fn K R k) (K:=K) (n:=fn.ntmps) hok [[]] ord (fun t ht=>by rw[jr.1 ht,jv];exact hA) ⟨[],jr.2 rfl⟩ (fun t ht=>.inl (jr.1 ht)) (fun t ht i t' j h _=>by rw[jr.1 ht]at h;cases h) (fun x hm=>by simpa using jD.1 hx x hm) (fun t ht x hm=>by rw[jr.1 ht]at hm;cases hm)
  (qhj (fun e s h t ht=>by rw[jr.1 ht];exact h) _ _ _ h) hi.drew (hr.grow (qdu p w)) hn hd)) (fun _ _ _ h=>⟨h,rfl⟩) (fun _ _ h=>h)
end
section
variable{P:Program}{X:Env→D→St→Prop}{Q:Env→St→Prop}{l:List Oper}{i:Nat}{o:Oper}{t:Nat}{d:D}{env:Env}{σ:St}{rest:List (Nat×Cls)}{c:Cls}
def z7(l:List Oper)(env:Env)(o:Oper):Option Bool:=match o.guard with |none=>some true |some (j,want)=>match(l[j]?).bind (·.dst)with |none=>none |some t=>match lk env t with |some (.bool b)=>some (b==want) |some .undef=>some false |_=>none
theorem qf3(l:List Oper)(env:Env)(o:Oper):yW l.toArray env o=z7 l env o:=by
 unfold yW z7;simp only[vD]<;>rfl
theorem qz(h:Q env σ):Run P l.toArray X Q [] env σ:=h
theorem r_d(hi:l[i]? =some o)(b:o.dst=some t)(hw:z7 l env o=some true)(hs:zi P o (ev env) d)(h:Run P l.toArray X Q rest ((t,d)::env) σ):Run P l.toArray X Q ((i,.d)::rest) env σ:=
 ⟨o,by simpa using hi,.inr (.inl ⟨by rw[qf3];exact hw,d,hs,by rw[b];exact h⟩)⟩
theorem rd(e:(l[i]?,o.dst,z7 l env o)=(some o,some t,some true))(hs:zi P o (ev env) d)(h:Run P l.toArray X Q rest ((t,d)::env) σ):Run P l.toArray X Q ((i,.d)::rest) env σ:=by
 injection e with b e
 injection e with g j
 exact r_d b g j hs h
theorem r_r(hi:l[i]? =some o)(b:o.dst=some t)(hw:z7 l env o=some true)(hs:zp P o (ev env) σ fun d' σ'=>d'=d∧σ'=σ)(h:Run P l.toArray X Q rest ((t,d)::env) σ):Run P l.toArray X Q ((i,.r)::rest) env σ:=
 ⟨o,by simpa using hi,.inr (.inl ⟨by rw[qf3];exact hw,d,hs,by rw[b];exact h⟩)⟩
theorem r_w{R:D→St→Prop}(hi:l[i]? =some o)(b:o.dst=some t)(hw:z7 l env o=some true)(hs:zp P o (ev env) σ R)(h:∀d σ',R d σ'→Run P l.toArray X Q rest ((t,d)::env) σ'):Run P l.toArray X Q ((i,.w)::rest) env σ:=
 ⟨o,by simpa using hi,.inr (.inl ⟨by rw[qf3];exact hw,R,hs.y,fun d σ' hR=>by rw[b];exact h d σ' hR⟩)⟩
theorem ew{R:D→St→Prop}(e:(l[i]?,o.dst,z7 l env o)=(some o,some t,some true))(hs:zp P o (ev env) σ R)(h:∀d σ',R d σ'→Run P l.toArray X Q rest ((t,d)::env) σ'):Run P l.toArray X Q ((i,.w)::rest) env σ:=by
 injection e with b e
 injection e with g j
 exact r_w b g j hs h
theorem r_w0{R:D→St→Prop}(hi:l[i]? =some o)(b:o.dst=none)(hw:z7 l env o=some true)(hs:zp P o (ev env) σ R)(h:∀d σ',R d σ'→Run P l.toArray X Q rest env σ'):Run P l.toArray X Q ((i,.w)::rest) env σ:=
 ⟨o,by simpa using hi,.inr (.inl ⟨by rw[qf3];exact hw,R,hs.y,fun d σ' hR=>by rw[b];exact h d σ' hR⟩)⟩
theorem r_y{R:D→St→Prop}(hi:l[i]? =some o)(b:o.dst=some t)(hw:z7 l env o=some true)(hs:za5 P o (ev env) σ R)(h:∀d σ',R d σ'→Run P l.toArray X Q rest ((t,d)::env) σ'):Run P l.toArray X Q ((i,.w)::rest) env σ:=
 ⟨o,by simpa using hi,.inr (.inl ⟨by rw[qf3];exact hw,R,hs,fun d σ' hR=>by rw[b];exact h d σ' hR⟩)⟩
theorem r_w1{o':List Ob}(hi:l[i]? =some o)(b:o.dst=some t)(hw:z7 l env o=some true)(hs:zp P o (ev env) σ fun d' σ'=>d'=d∧σ'=o')(h:Run P l.toArray X Q rest ((t,d)::env) o'):Run P l.toArray X Q ((i,.w)::rest) env σ:=
 r_w hi b hw hs fun _ _⟨e,g⟩=>e▸g▸h
theorem qgd{o':List Ob}(hi:l[i]? =some o)(b:o.dst=none)(hw:z7 l env o=some true)(hs:zp P o (ev env) σ fun _ σ'=>σ'=o')(h:Run P l.toArray X Q rest env o'):Run P l.toArray X Q ((i,.w)::rest) env σ:=
 r_w0 hi b hw hs fun _ _ e=>e▸h
theorem r_x{R:D→St→Prop}(hi:l[i]? =some o)(b:o.dst=some t)(hw:z7 l env o=some true)(hs:zp P o (ev env) σ R)(h:∀d σ',R d σ'→Run P l.toArray X Q rest ((t,d)::env) σ'):Run P l.toArray X Q ((i,.x)::rest) env σ:=
 ⟨o,by simpa using hi,.inr (.inl ⟨by rw[qf3];exact hw,R,hs.y,fun d σ' hR=>by rw[b];exact h d σ' hR⟩)⟩
theorem r_x0{R:D→St→Prop}(hi:l[i]? =some o)(b:o.dst=none)(hw:z7 l env o=some true)(hs:zp P o (ev env) σ R)(h:∀d σ',R d σ'→Run P l.toArray X Q rest env σ'):Run P l.toArray X Q ((i,.x)::rest) env σ:=
 ⟨o,by simpa using hi,.inr (.inl ⟨by rw[qf3];exact hw,R,hs.y,fun d σ' hR=>by rw[b];exact h d σ' hR⟩)⟩
theorem r_wr(hi:l[i]? =some o)(b:o.dst=some t)(hw:z7 l env o=some true)(hs:zp P o (ev env) σ fun d' σ'=>d'=d∧σ'=σ)(h:Run P l.toArray X Q rest ((t,d)::env) σ):Run P l.toArray X Q ((i,.w)::rest) env σ:=
 r_w hi b hw hs fun _ _⟨e,g⟩=>e▸g▸h
theorem r_xr(hi:l[i]? =some o)(b:o.dst=some t)(hw:z7 l env o=some true)(hs:zp P o (ev env) σ fun d' σ'=>d'=d∧σ'=σ)(h:Run P l.toArray X Q rest ((t,d)::env) σ):Run P l.toArray X Q ((i,.x)::rest) env σ:=
 r_x hi b hw hs fun _ _⟨e,g⟩=>e▸g▸h
theorem qbJ(hi:l[i]? =some o)(b:o.dst=some t)(hw:z7 l env o=some false)(h:Run P l.toArray X Q rest ((t,.undef)::env) σ):Run P l.toArray X Q ((i,c)::rest) env σ:=
 ⟨o,by simpa using hi,.inl ⟨by rw[qf3];exact hw,by rw[b];exact h⟩⟩
theorem rh(e:(l[i]?,o.dst,z7 l env o)=(some o,some t,some false))(h:Run P l.toArray X Q rest ((t,.undef)::env) σ):Run P l.toArray X Q ((i,c)::rest) env σ:=by
 injection e with b e
 injection e with g j
 exact qbJ b g j h
theorem qvN(hi:l[i]? =some o)(b:o.dst=none)(hw:z7 l env o=some false)(h:Run P l.toArray X Q rest env σ):Run P l.toArray X Q ((i,c)::rest) env σ:=
 ⟨o,by simpa using hi,.inl ⟨by rw[qf3];exact hw,by rw[b];exact h⟩⟩
theorem qmM(hi:l[i]? =some o)(hw:z7 l env o=some true){τ:St}(hs:zcP P o (ev env) σ τ d)(hx:X env d τ)(hc:c.isW=true:=by rfl):Run P l.toArray X Q ((i,c)::rest) env σ:=
 ⟨o,by simpa using hi,.inr (.inr ⟨by rw[qf3];exact hw,env,d,τ,fun _=>rfl,hx,hs,hc⟩)⟩
theorem qwH{P:Program}{Q:Env→St→Prop}{l:List Oper}:∀(rest:List (Nat×Cls))(env b:Env)(σ:St),(∀t,lk env t=lk b t)→Run P l.toArray X Q rest env σ→(∀e A:Env,∀σ,(∀t,lk e t=lk A t)→Q e σ→Q A σ)→Run P l.toArray X Q rest b σ:=by
 intro rest;induction rest with
 |nil=>exact fun env b σ he h hq=>hq env b σ he h
 |cons x rest q=>
  obtain⟨i,c⟩:=x;intro env b σ he h hq;obtain⟨o,B,h⟩:=h;have u:yW l.toArray b o=yW l.toArray env o:=by
   unfold yW;split
   rfl;split
   rfl;rw[he]
  have v:ev b=ev env:=by
   funext x
   cases x<;>simp[ev,he]
  have g:∀d,∀t,lk (env.put o.dst d) t=lk (b.put o.dst d) t:=fun d t=>by simp only[qe0,he]
  refine⟨o,B,?_⟩;rw[u,v];rcases h with⟨hw,h⟩|⟨hw,h⟩|h
  exact .inl ⟨hw,q _ _ _ (g _) h hq⟩;rotate_left
  obtain⟨hw,C,d,τ,z,E,h⟩:=h;exact .inr (.inr ⟨hw,C,d,τ,fun t=>(z t).trans (he t),E,h⟩);refine .inr (.inl ⟨hw,?_⟩);cases c with
  |d=>obtain⟨d,j,n⟩:=h;exact⟨d,j,q _ _ _ (g d) n hq⟩
  |r=>obtain⟨d,j,n⟩:=h;exact⟨d,j,q _ _ _ (g d) n hq⟩
  |w=>obtain⟨R,j,n⟩:=h;exact⟨R,j,fun d σ' hR=>q _ _ _ (g d) (n d σ' hR) hq⟩
  |x=>obtain⟨R,j,n⟩:=h;exact⟨R,j,fun d σ' hR=>q _ _ _ (g d) (n d σ' hR) hq⟩
theorem qlc{m:Md}{f:FuncId}{fn:Func}{K:Ctx}{R:D→St→Prop}{k:List Item}(e b:Env)(σ:St)(h:∀t,lk e t=lk b t)(g:ze m P f fn K R k e σ):ze m P f fn K R k b σ:=
 qcS e (fun t d j=>⟨d,by rw[←h t];exact j,Wk.refl d⟩) g
theorem qgm{m:Md}{f:FuncId}{fn:Func}{K:Ctx}{R:D→St→Prop}{k:List Item}(s:Nat){b:Bool}(hs:lk env s=some (.bool b))(e:b=true→Run P l.toArray X (ze m P f fn K R k) rest ((s,.bool true)::env) σ)(g:b=false→Run P l.toArray X (ze m P f fn K R k) rest ((s,.bool false)::env) σ):Run P l.toArray X (ze m P f fn K R k) rest env σ:=by
 have he:∀t,lk ((s,D.bool b)::env) t=lk env t:=fun t=>by
  rw[qa5];split
  rename_i h;subst h;exact hs.symm
  rfl
 cases b with
 |true=>exact qwH rest _ env σ he (e rfl) qlc
 |false=>exact qwH rest _ env σ he (g rfl) qlc
theorem qbB{m:Md}{f:FuncId}{fn:Func}{K:Ctx}{R:D→St→Prop}{k:List Item}(s:Nat){b:Bool}(hs:lk env s=some (.bool b))(e:b=true→ze m P f fn K R k ((s,.bool true)::env) σ)(g:b=false→ze m P f fn K R k ((s,.bool false)::env) σ):ze m P f fn K R k env σ:=by
 have he:∀t,lk ((s,D.bool b)::env) t=lk env t:=fun t=>by
  rw[qa5];split
  rename_i h;subst h;exact hs.symm
  rfl
 cases b with
 |true=>exact qlc _ env σ he (e rfl)
 |false=>exact qlc _ env σ he (g rfl)
end
section
variable{P:Program}{o:Oper}{ρ:Operand→Option D}{d:D}
theorem qM(h:∀(p:Addr→Prop)(a:Act)(w:World),(∀x∈o.op.operands,∀d,ρ x=some d→Rep p w d (a.eval x))→∃v,(execOp a.eval o).run P w= .ok (.value v) w∧Rep p w d v):zi P o ρ d:=fun σ K p a w hi b=>by
 obtain⟨v,e,g⟩:=h p a w b;unfold Oper.wp;rw[e];exact⟨v,d,σ,p,rfl,⟨rfl,rfl⟩,g,hi,zE.refl p w⟩
theorem qn{x:Operand}(b:o.op= .move x)(e:ρ x=some d):zi P o ρ d:=qM fun p a w h=>
 ⟨a.eval x,by unfold execOp;rw[b];rfl,h x (by rw[b];simp[Op.operands]) d e⟩
theorem rf{P:Program}{X:Env→D→St→Prop}{Q:Env→St→Prop}{rest:List (Nat×Cls)}{env:Env}{σ:St}{l:List Oper}{i t:Nat}{o:Oper}{d:D}{x:Operand}(e:(l[i]?,o.dst,z7 l env o,o.op,ev env x)=(some o,some t,some true,.move x,some d))(h:Run P l.toArray X Q rest ((t,d)::env) σ):Run P l.toArray X Q ((i,.d)::rest) env σ:=by
 injection e with b e
 injection e with g e
 injection e with j e
 injection e with n q
 exact r_d b g j (qn n q) h
theorem qm{x:Operand}(b:o.op= .assign x)(e:ρ x=some d):zi P o ρ d:=qM fun p a w h=>
 ⟨a.eval x,by unfold execOp;rw[b];rfl,h x (by rw[b];simp[Op.operands]) d e⟩
theorem rc{P:Program}{X:Env→D→St→Prop}{Q:Env→St→Prop}{rest:List (Nat×Cls)}{env:Env}{σ:St}{l:List Oper}{i t:Nat}{o:Oper}{d:D}{x:Operand}(e:(l[i]?,o.dst,z7 l env o,o.op,ev env x)=(some o,some t,some true,.assign x,some d))(h:Run P l.toArray X Q rest ((t,d)::env) σ):Run P l.toArray X Q ((i,.d)::rest) env σ:=by
 injection e with b e
 injection e with g e
 injection e with j e
 injection e with n q
 exact r_d b g j (qm n q) h
theorem qzL{c x y:Operand}{b:Bool}(e:o.op= .pick c x y)(j:ρ c=some (.bool b))(n:b=true→ρ x=some d)(hy:b=false→ρ y=some d):zi P o ρ d:=qM fun p a w h=>by
 have g:=h c (by rw[e];simp[Op.operands]) _ j;simp only[Rep]at g;cases b with
 |true=>exact⟨a.eval x,by unfold execOp;rw[e];simp[g,asBool],h x (by rw[e];simp[Op.operands]) d (n rfl)⟩
 |false=>exact⟨a.eval y,by unfold execOp;rw[e];simp[g,asBool],h y (by rw[e];simp[Op.operands]) d (hy rfl)⟩
theorem qiU{c x y:Operand}(b:o.op= .pick c x y)(e:ρ c=some (.bool true))(g:ρ x=some d):zi P o ρ d:=qzL b e (fun _=>g) fun h=>by cases h
theorem qhu{c x y:Operand}(b:o.op= .pick c x y)(e:ρ c=some (.bool false))(g:ρ y=some d):zi P o ρ d:=qzL b e (fun h=>by cases h) fun _=>g
theorem ql8{x:Operand}{t:TypeId}{b:Bool}(e:o.op= .unOp .not t x)(j:ρ x=some (.bool b)):zi P o ρ (.bool (!b)):=qM fun p a w h=>by
 have g:=h x (by rw[e];simp[Op.operands]) _ j;simp only[Rep]at g;exact⟨.bool (!b),by unfold execOp;rw[e];simp[g,Op.unary],by simp only[Rep]⟩
theorem qec{x:Operand}{ix:Nat}{ds:List D}(e:o.op= .extract x ix)(g:ρ x=some (.tup ds))(hd:ds[ix]? =some d):zi P o ρ d:=qM fun p a w h=>by
 have b:=h x (by rw[e];simp[Op.operands]) _ g;simp only[Rep]at b;obtain⟨r,b,j⟩:=b;obtain⟨v,n,q⟩:=j.at_ hd;exact⟨v,by unfold execOp;rw[e];simp[b,Instr.extract,n],q⟩
def icmp:BinOp→Int→Int→Option Bool |.eql,x,y=>some (x==y) |.neq,x,y=>some (x !=y) |.lss,x,y=>some (decide (x<y)) |.leq,x,y=>some (decide (x≤y)) |.gtr,x,y=>some (decide (x>y)) |.geq,x,y=>some (decide (x≥y)) |_,_,_=>none
theorem qcs{op:BinOp}{t q:TypeId}{x y:Operand}{k:IntKind}{m n:Int}{b:Bool}(e:o.op= .binOp op t x y q)(r:ρ x=some (.int k m))(hy:ρ y=some (.int k n))(hb:icmp op m n=some b):zi P o ρ (.bool b):=qM fun p a w h=>by
 have g:=h x (by rw[e];simp[Op.operands]) _ r;have j:=h y (by rw[e];simp[Op.operands]) _ hy;simp only[Rep]at g j;refine⟨.bool b,?_,by simp only[Rep]⟩;unfold execOp;rw[e];simp only[g.1,j.1];cases op<;>simp[icmp]at hb<;>subst hb<;>simp[binOp,eqGuard,Op.intCmp]
def iar:BinOp→Int→Int→Option Int |.add,x,y=>some (x+y) |.sub,x,y=>some (x-y) |.mul,x,y=>some (x*y) |_,_,_=>none
theorem qly(k:IntKind)(n:Int):k.wrap (k.wrap n)=k.wrap n:=by
 cases k<;>simp[IntKind.wrap,IntKind.bits,IntKind.signed]<;>split<;>split<;>omega
theorem qqO{op:BinOp}{t j:TypeId}{x y:Operand}{k:IntKind}{m n r:Int}(b:o.op= .binOp op t x y j)(q:ρ x=some (.int k m))(hy:ρ y=some (.int k n))(hb:iar op m n=some r):zi P o ρ (.int k (k.wrap r)):=qM fun p a w h=>by
 have e:=h x (by rw[b];simp[Op.operands]) _ q;have g:=h y (by rw[b];simp[Op.operands]) _ hy;simp only[Rep]at e g;refine⟨.int k (k.wrap r),?_,by simpa only[Rep,true_and]using qly k r⟩;unfold execOp;rw[b];simp only[e.1,g.1];cases op<;>simp[iar]at hb<;>subst hb<;>simp[binOp,eqGuard,Op.intArith]
theorem wrap64{n:Int}(h: -9223372036854775808≤n∧n<9223372036854775808):IntKind.i64.wrap n=n:=by
 simp only[IntKind.wrap,IntKind.bits,IntKind.signed];simp;split<;>omega
theorem qfu{n:Int}(h:IntKind.i64.wrap n=n): -9223372036854775808≤n∧n<9223372036854775808:=by
 simp only[IntKind.wrap,IntKind.bits,IntKind.signed]at h;simp at h;split at h<;>omega
theorem y4{op:BinOp}{t b:TypeId}{x y:Operand}{m n r:Int}(e:o.op= .binOp op t x y b)(g:ρ x=some (.int .i64 m))(hy:ρ y=some (.int .i64 n))(hb:iar op m n=some r)(hr: -9223372036854775808≤r∧r<9223372036854775808):zi P o ρ (.int .i64 r):=by
 have:=qqO (P:=P) e g hy hb;rw[wrap64 hr]at this;exact this
def scmp:BinOp→ByteArray→ByteArray→Option Bool |.eql,x,y=>some (x.toList==y.toList) |.neq,x,y=>some (!(x.toList==y.toList)) |.lss,x,y=>some (Op.bytesLess x.toList y.toList) |.leq,x,y=>some (Op.bytesLess x.toList y.toList||x.toList==y.toList) |.gtr,x,y=>some (!(Op.bytesLess x.toList y.toList||x.toList==y.toList)) |.geq,x,y=>some (!Op.bytesLess x.toList y.toList) |_,_,_=>none
theorem qnC{op:BinOp}{t q:TypeId}{x y:Operand}{m n:ByteArray}{b:Bool}(e:o.op= .binOp op t x y q)(r:ρ x=some (.str m))(hy:ρ y=some (.str n))(hb:scmp op m n=some b):zi P o ρ (.bool b):=qM fun p a w h=>by
 have g:=h x (by rw[e];simp[Op.operands]) _ r;have j:=h y (by rw[e];simp[Op.operands]) _ hy;simp only[Rep]at g j;refine⟨.bool b,?_,by simp only[Rep]⟩;unfold execOp;rw[e];simp only[g.1,j.1];cases op<;>simp only[scmp,Option.some.injEq,reduceCtorEq]at hb<;>subst hb<;>simp[binOp,eqGuard,Op.stringOp]
theorem qBY{x y:Operand}{t j:TypeId}{m n:Bool}(b:o.op= .binOp .eql t x y j)(q:P.underlying t=some .bool)(r:ρ x=some (.bool m))(hy:ρ y=some (.bool n)):zi P o ρ (.bool (m==n)):=qM fun p a w h=>by
 have e:=h x (by rw[b];simp[Op.operands]) _ r;have g:=h y (by rw[b];simp[Op.operands]) _ hy;simp only[Rep]at e g;refine⟨.bool (m==n),?_,by simp only[Rep]⟩;unfold execOp;rw[b];have u:eqGuard .eql t x y (.bool m) (.bool n)=pure ():=rfl;have v:binOp .eql t (.bool m) (.bool n)=(do pure (.bool (←Op.equal t (.bool m) (.bool n)))):=rfl;simp[e,g,u,v,run_equal_bool w t m n q]
theorem qzy{x y:Operand}{t j:TypeId}{m n:Bool}(b:o.op= .binOp .neq t x y j)(q:P.underlying t=some .bool)(r:ρ x=some (.bool m))(hy:ρ y=some (.bool n)):zi P o ρ (.bool (m !=n)):=qM fun p a w h=>by
 have e:=h x (by rw[b];simp[Op.operands]) _ r;have g:=h y (by rw[b];simp[Op.operands]) _ hy;simp only[Rep]at e g;refine⟨.bool (m !=n),?_,by simp only[Rep]⟩;unfold execOp;rw[b];have u:eqGuard .neq t x y (.bool m) (.bool n)=pure ():=rfl;have v:binOp .neq t (.bool m) (.bool n)=(do pure (.bool (!(←Op.equal t (.bool m) (.bool n))))):=rfl;simp[e,g,u,v,run_equal_bool w t m n q,bne]
inductive AsL:D→List D→Prop
 |lst (l:List D):AsL (.lst l) l
 |full (l:List D):AsL (.full l) l
 |own (u:Value) (l:List D):AsL (.own u l) l
theorem AsL.rep{d:D}{l:List D}{p:Addr→Prop}{w:World}{v:Value}(h:AsL d l)(b:Rep p w d v):∃A c xs,v= .slice A l.length c∧l.length≤c∧c≤9223372036854775807∧RdP p w A xs∧zj p w l xs∧∀u∈xs,u.oneCell'=true:=by
 cases h with
 |lst=>simpa only[Rep]using b
 |full=>simp only[Rep]at b;obtain⟨A,xs,e,g,j⟩:=b;exact⟨A,_,xs,e,jf _,g,j⟩
 |own=>simp only[Rep]at b;obtain⟨rfl,b⟩:=b;exact b
def asL:D→Option (List D) |.lst l=>some l |.full l=>some l |.own _ l=>some l |_=>none
theorem asl{d:D}{l:List D}(h:asL d=some l):AsL d l:=by
 cases d<;>simp only[asL,Option.some.injEq,reduceCtorEq]at h<;>subst h<;>constructor
theorem qDF{x:Operand}{t e:TypeId}{b:D}{l:List D}(g:o.op= .call {callee:=.builtin .len,args:=#[x],argTypes:=#[t]})(j:P.underlying t=some (.slice e))(n:ρ x=some b)(hl:AsL b l):zi P o ρ (.int .i64 (l.length:Int)):=qM fun p a w h=>by
 obtain⟨A,c,xs,q,r,u,_⟩:=hl.rep (h x (by rw[g];simp[Op.operands,Call.operands]) _ n);refine⟨.int .i64 (l.length:Int),?_,by simpa only[Rep,true_and]using wrap64 oa⟩;unfold execOp;rw[g];simp[resolve,invoke,builtin,q,Builtin.len_,run_underlying j,goInt]
theorem qCM{x:Operand}{t:TypeId}{s:ByteArray}(b:o.op= .call {callee:=.builtin .len,args:=#[x],argTypes:=#[t]})(g:P.underlying t=some .string)(j:ρ x=some (.str s)):zi P o ρ (.int .i64 (s.size:Int)):=qM fun p a w h=>by
 have e:=h x (by rw[b];simp[Op.operands,Call.operands]) _ j;simp only[Rep]at e;refine⟨.int .i64 (s.size:Int),?_,by simpa only[Rep,true_and]using wrap64 oa⟩;unfold execOp;rw[b];simp[resolve,invoke,builtin,e.1,Builtin.len_,run_underlying g,goInt]
theorem qBO{x:Operand}{t e:TypeId}{b s lo n:Nat}(j:o.op= .call {callee:=.builtin .len,args:=#[x],argTypes:=#[t]})(q:P.underlying t=some (.slice e))(r:ρ x=some (.arr b s lo n)):zi P o ρ (.int .i64 (n:Int)):=qM fun p a w h=>by
 have g:=h x (by rw[j];simp[Op.operands,Call.operands]) _ r;simp only[Rep]at g;obtain⟨A,c,g,u,v,_⟩:=g;refine⟨.int .i64 (n:Int),?_,by simpa only[Rep,true_and]using wrap64 oa⟩;unfold execOp;rw[j];simp[resolve,invoke,builtin,g,Builtin.len_,run_underlying q,goInt]
theorem qz3{t e:TypeId}{x ix:Operand}{H:D}{l:List D}{k:IntKind}{n:Int}{j s:Nat}(z:o.op= .indexAddr t x ix)(L:P.underlying t=some (.slice e))(hs:(P.info? e).map (·.size)=some s)(B:0<s)(M:ρ x=some H)(hl:AsL H l)(C:ρ ix=some (.int k n))(hn:n=(j:Int))(hd:l[j]? =some d)(q:zx s l)(N:d.plain=true):zi P o ρ (.ptr d):=qM fun p a w h=>by
 obtain⟨A,c,xs,O,Y,Z,E,I,h6⟩:=hl.rep (h x (by rw[z];simp[Op.operands]) _ M);have J:=h ix (by rw[z];simp[Op.operands]) _ C;simp only[Rep]at J;subst hn;have S:=(jd.1 hd).1;obtain⟨v,F,g⟩:=I.at_cell hd;obtain⟨i,hi,G⟩:=jC.1 hs;have U:=Rep.sz F;rw[(q.take j).szs]at g;have r:(l.take j).length=j:=by simp;omega
 rw[r]at g;have hlen:xs.length=l.length*s:=by rw[I.len,q.szs]
 rcases E with E|⟨b,o',rfl,V⟩
 exfalso;have:0<l.length*s:=j6 oa B;rw[E]at hlen;simp at hlen;omega;refine⟨.pointer (some ⟨b,o'+j*s,none⟩),?_,?_⟩;unfold execOp;rw[z];have hlt:((j:Int)<(l.length:Int)):=by omega
 simp[O,J.1,Instr.indexAt,asIntOf,run_underlying L,sizeOf,typeInfo,hi,G,S,zan];simp only[Rep];refine⟨b,o'+j*s,v,rfl,.inr ⟨b,o'+j*s,rfl,fun m u hu=>?_⟩,F,Rep.one F N⟩;have:=V _ _ (g m u hu);rw[←jS]at this;exact this
end
end Go.Proofs.YtgcegilpajfdhaaGreat
