/- Parts of the proofs about this seat's statements. -/
import Derived.Test.YtinmmkcjjlconaaGreatL1u
set_option maxRecDepth 100000
set_option maxHeartbeats 16000000
namespace Go.Proofs.YtinmmkcjjlconaaGreat
open Go.RowKit W
open Pl (nb bv bv_nb nb_size_zero)
open Lp (S S_succ Cert Out Unb)
structure LowS (U:Lp.Tab) (i r:Nat):Prop where
  lt:r<i
  neg:U.b r<0
  min: ∀q,q<i→U.b r≤U.b q
  first: ∀q,q<r→U.b r<U.b q
structure BegR (w0:World) (b m n:Nat) (A:Nat→Nat→Rat) (B:Nat→Rat) (e:Ending) (w':World):Prop where
  ex: ∃U,RT w0 w' b m (n+m+1) U∧((e= .returned (.bool false)∧∀x,¬Lp.Feas m n A B x)∨(e= .returned (.bool true)∧Lp.Way m n A B U∧¬Lp.Bas m U (n+m)))
theorem LowS.low{m n:Nat}{A:Nat→Nat→Rat}{B:Nat→Rat}{r:Nat}(h:LowS (Lp.tab0 m n A B) m r):Lp.Low m B r:=⟨h.lt,h.neg,h.min,h.first⟩
theorem tab0_nb {m n:Nat} {A:Nat→Nat→Rat} {B:Nat→Rat}: ¬Lp.Bas m (Lp.tab0 m n A B) (n+m):=fun⟨i,hi,e⟩=>by
 have e:n+i=n+m:=e
 omega
theorem cost_hc {m n j:Nat} {A:Nat→Nat→Rat} {B:Nat→Rat}:costF (n+m+1) (Lp.wc m (Lp.tab0 m n A B) (Lp.hc (n+m))) j=upd (costF (n+m+1) (Lp.tab0 m n A B)) (n+m) (-1) j:=by
 have h0: ∀f:Nat→Rat,Lp.S m (fun q=>Lp.hc (n+m) ((Lp.tab0 m n A B).bas q)*f q)=0:=fun f=>Lp.hc_sum0 tab0_nb f
 by_cases hj:j<n+m+1
 ·rw[cost_lt hj]
  show Lp.hc (n+m) j-Lp.S m (fun q=>Lp.hc (n+m) ((Lp.tab0 m n A B).bas q)*(Lp.tab0 m n A B).a q j)=_
  rw[h0];unfold Lp.hc
  by_cases e:j=n+m
  ·rw[if_pos e,e,upd_same];grind
  ·rw[if_neg e,upd_ne e,cost0];grind
 ·rw[upd_ne (by omega),cost0]
  unfold costF;rw[if_neg hj]
  show-Lp.S m (fun q=>Lp.hc (n+m) ((Lp.tab0 m n A B).bas q)*(Lp.tab0 m n A B).b q)=0
  rw[h0];exact Rat.neg_zero
structure DrvI (m n:Nat) (A:Nat→Nat→Rat) (B:Nat→Rat) (V:Lp.Tab) (i:Nat):Prop where
  way:Lp.Way m n A B V
  zero: ∀q,q<m→V.bas q=n+m→V.b q=0
  gone: ∀q,q<i→q<m→V.bas q≠n+m
section
variable {m n:Nat} {A:Nat→Nat→Rat} {B:Nat→Rat} {V:Lp.Tab}
theorem _root_.Lp.Way.wcT(h:Lp.Way m n A B V)(g:Nat→Rat):Lp.Way m n A B (Lp.wc m V g):=⟨⟨h.inv.bas,h.inv.unit⟩,h.pos,h.req,⟨h.src.a,h.src.b⟩⟩
theorem DrvI.none{i:Nat}(h:Lp.Way m n A B V)(hn: ¬Lp.Bas m V (n+m)):DrvI m n A B V i:=⟨h,fun q hq e=>(hn ⟨q,hq,e⟩).elim,fun q _ hq e=>hn ⟨q,hq,e⟩⟩
theorem DrvI.drive {i c:Nat} (h:DrvI m n A B V i) (hi:i<m) (hb:V.bas i=n+m) (hc:c<n+m) (hp:V.a i c≠0):DrvI m n A B (Lp.pivot V i c) i∧¬Lp.Bas m (Lp.pivot V i c) (n+m):=by
 obtain⟨h1,_,h3⟩:=h.way.drive hi hb (h.zero i hi hb) hc hp
 exact⟨.none h1 h3,h3⟩
theorem DrvI.next {i:Nat} (h:DrvI m n A B V i) (hi:i<m) (hz:V.bas i=n+m→∀c,c<n+m→V.a i c=0):DrvI m n A B V (i+1):=⟨h.way,h.zero,fun q hq hm e=>by
 rcases(by omega:q<i∨q=i) with h2|rfl
 ·exact h.gone q h2 hm e
 ·obtain⟨c,hc,hne⟩:=h.way.col hi e
  exact hne (hz e c hc)⟩
theorem DrvI.all(h:DrvI m n A B V m): ¬Lp.Bas m V (n+m):=fun⟨q,hq,e⟩=>h.gone q hq hq e
theorem RT.bx0 {w0 w:World} {b N:Nat} {U:Lp.Tab} (h:RT w0 w b m N U): ∃ar cr,w.cell? ⟨b,0,none⟩=some (.slice ar m cr):=by
 obtain⟨ar,cr,ab,cb,ac,cc,rv_,T,hS,hp⟩:=h
 exact⟨ar,cr,(hS.box hp.bx).at 0 rfl⟩
theorem RT.rowAt {w0 w:World} {b N i:Nat} {U:Lp.Tab} (h:RT w0 w b m N U) (hi:i<m): ∃ga cr gb cb gQ cQ,w.cell? ⟨b,0,none⟩=some (.slice (some ⟨ga,0,none⟩) m cr)∧w.cell? ⟨b,1,none⟩=some (.slice (some ⟨gb,0,none⟩) m cb)∧w.cell? ⟨ga,i,none⟩=some (.slice (some ⟨gQ,0,none⟩) (N+1) cQ)∧w.cell? ⟨gb,i,none⟩=some (.int .i64 (U.bas i:Int))∧∀j,j<N+1→E3 w gQ j (q3 (rowF N U i j)):=by
 obtain⟨ar,cr,ab,cb,ac,cc,rv_,T,hS,hp⟩:=h;obtain⟨_,_,eA,hA1⟩:=(hS.vals hp.rs).form;obtain⟨_,_,eB,hB1⟩:=(hS.ints hp.bs).form
 obtain⟨ga,e1,_⟩:=hA1 (by simp;omega)
 obtain⟨gb,e2,_⟩:=hB1 (by simp;omega)
 simp only[Value.slice.injEq] at eA eB
 obtain rfl:=eA.1.trans e1;obtain rfl:=eB.1.trans e2;obtain⟨a,cQ,e⟩:=(hS.lst (hp.ro i hi)).form;rw[raws_len] at e;have h2:=(hS.lst (hp.ro i hi)).slr;rw[e] at h2
 obtain⟨gQ,rfl,_⟩:=h2.get (show 0<N+1 by omega)
 have h3:=hS.rowat hp.rs (vals_at hi);have h4:=hp.ro i hi;rw[e] at h3 h4
 refine⟨ga,cr,gb,cb,gQ,cQ,(hS.box hp.bx).at 0 rfl,(hS.box hp.bx).at 1 rfl,h3,?_,fun j hj=>hS.e3 h4 hj⟩
 have hv:=hS.ints hp.bs
 rw[(hv.rowC rfl).2 i (by simpa using hi)]
 simp[List.getD_eq_getElem?_getD,hi]
end
def LowR(U:Lp.Tab)(i:Nat)(z:Int):Prop:=(z= -1∧∀q,q<i→0≤U.b q)∨∃r:Nat,z=(r:Int)∧LowS U i r
theorem LowS.take {U:Lp.Tab} {i:Nat} (h: ∀q,q<i→0≤U.b q) (hp:U.b i<0):LowS U (i+1) i where
 lt:=by omega
 neg:=hp
 min:=fun q hq=>by
  rcases(by omega:q<i∨q=i) with h1|rfl
  ·have:=h q h1;grind
  ·exact Rat.le_refl
 first:=fun q hq=>by have:=h q hq;grind
theorem LowS.swap {U:Lp.Tab} {i r:Nat} (h:LowS U i r) (hp:U.b i<0) (hl:U.b i<U.b r):LowS U (i+1) i where
 lt:=by omega
 neg:=hp
 min:=fun q hq=>by
  rcases(by omega:q<i∨q=i) with h1|rfl
  ·have:=h.min q h1;grind
  ·exact Rat.le_refl
 first:=fun q hq=>by have:=h.min q hq;grind
theorem LowS.keep {U:Lp.Tab} {i r:Nat} (h:LowS U i r) (hl: ¬U.b i<U.b r):LowS U (i+1) r where
 lt:=by have:=h.lt;omega
 neg:=h.neg
 min:=fun q hq=>by
  rcases(by omega:q<i∨q=i) with h1|rfl
  ·exact h.min q h1
  ·exact Rat.not_lt.1 hl
 first:=h.first
theorem rbegin_any (w0 w:World) (b m n:Nat) (A:Nat→Nat→Rat) (B:Nat→Rat) (h:RT w0 w b m (n+m+1) (Lp.tab0 m n A B)) (hm:m≤100) (hN:n+m+1≤900)
  (sB: ∀i,i<m→Sz (B i) 40000) (s0: ∀i j,i<m→j≤n+m+1→Sz (rowF (n+m+1) (Lp.tab0 m n A B) i j) 40000) (sT: ∀V,Lp.Way m n A B V→(∀i j,i<m→j≤n+m+1→Sz (rowF (n+m+1) V i j) 40000)∧(∀j,j≤n+m+1→Sz (costF (n+m+1) (Lp.wc m V (Lp.hc (n+m))) j) 40000)):
  Calls Tryz.prog 47 #[.pointer (some ⟨b,0,none⟩)] w fun e w'=>BegR w0 b m n A B e w':=by
 have HS0:=Lib.hid s0;have HST:=Lib.hid sT
 have HOm:=Lib.hid (fun W=>rof2_any (-1) W (by decide) (by decide))
 obtain⟨zm,hzm⟩: ∃z:Rat,z= -1:=⟨_,rfl⟩;rw[show((-1:Int):Rat)=zm from hzm.symm▸rfl] at HOm;have HZM:=Lib.hid hzm;clear s0 sT hzm;obtain⟨U,hU⟩: ∃U,U=Lp.tab0 m n A B:=⟨_,rfl⟩
 have sU: ∀i,i<m→Sz (U.b i) 40000:=by rw[hU];exact sB
 rw[←hU] at h;generalize hNe:n+m+1=N at*;have HRb:=Lib.hid (fun W (hb:Below w.heap.size w W)=>h.below hb);obtain⟨ar,cr,ab,cb,ac,cc,rv_,T,hS,hp0⟩:=h;obtain⟨bx,rs,bs,co,ro⟩:=hp0
 have HSg:=Lib.hid (fun i (hi:i<m) W=>rsign2_any (U.b i) W ((sU i hi).mono (by decide)))
 have HCm:=Lib.hid (fun i r (hi:i<m) (hr:r<m) W=>rcmp2_any (U.b i) (U.b r) W ((sU i hi).mono (by decide)) ((sU r hr).mono (by decide)))
 have HT:=Lib.hid (fun W (hb:Below w.heap.size w W)=>hS.below hb);have HC2:=Lib.hid (fun i=>(row_end:rowF N U i N=U.b i))
 have HRV:=Lib.hid (fun i (hi:i<m)=>(show∃g cq,rv_ i= .slice (some ⟨g,0,none⟩) (N+1) cq from by
  obtain⟨a,cq,e⟩:=(hS.lst (ro i hi)).form;rw[raws_len] at e;have h2:=(hS.lst (ro i hi)).slr;rw[e] at h2
  obtain⟨g,rfl,_⟩:=h2.get (show 0<N+1 by omega)
  exact⟨g,cq,e⟩))
 have HAB:=Lib.hid (fun(h0:0<m)=>(show∃ga,ar=some ⟨ga,0,none⟩ from by
  obtain⟨_,_,eA,hA1⟩:=(hS.vals rs).form
  obtain⟨ga,e1,_⟩:=hA1 (by simpa using h0)
  simp only[Value.slice.injEq] at eA
  exact⟨ga,eA.1.trans e1⟩))
 have hNN:N<N+1:=by omega
 have HM0:=Lib.hid (show N+1≤901 by omega)
 have HNn:=Lib.hid hNe;generalize hM:N+1=M at*
 have hMN:(M:Int)-1=(N:Int):=by omega
 have hwN:IntKind.i64.wrap (N:Int)=(N:Int):=by rw[IntKind.wrap_i64];omega
 have hNm:(N:Int)-1=((n+m:Nat):Int):=by omega
 have hwm:IntKind.i64.wrap ((n+m:Nat):Int)=((n+m:Nat):Int):=by rw[IntKind.wrap_i64];omega
 have hn0:(0:Int)≤(N:Int):=by omega
 have hn1:(N:Int)<(M:Int):=by omega
 generalize hH:n+m=H at*;have HUe:=Lib.hid hU;have HHe:=Lib.hid hH;have HMe:=Lib.hid hM
 simp only[rv] at HSg HCm HOm
 clear sB sU hU hM hNe hH
 go_enter Tryz.func47,Tryz.ntmps47
 have ag:=(Below.refl w.heap.size w)
 go_upto_region 1 with fail
 have k0:=(hS.box bx).at 2 rfl;have ag:=Below.refl w.heap.size w
 go_wp2_with fail
 clear k0
 go_loopw [5,6] (fun s5 s6 wr=> ∃i:Nat,i≤m∧s6= .int .i64 (i:Int)∧∃z:Int,s5= .int .i64 z∧Below w.heap.size w wr∧Hid (LowR U i z)) (fun _ s6 _=>m-(intOf s6).toNat)
 case atStart=>exact⟨0,by omega,rfl, -1,rfl,ag,Lib.hid (.inl ⟨rfl,fun q hq=>by omega⟩)⟩
 case round =>
  clear ag;obtain⟨i,hi,rfl,z,rfl,ag,HZ⟩:=hrel
  have hw1:IntKind.i64.wrap ((i:Int)+1)=(i:Int)+1:=by rw[IntKind.wrap_i64];omega
  have k0:=((HT.out _ ag).box bx).at 0 rfl
  by_cases hlt:i<m
  ·have hi0:(0:Int)≤(i:Int):=by omega
   have hi1:(i:Int)<(m:Int):=by omega
   obtain⟨ga,rfl⟩:=HAB.out (by omega)
   obtain⟨gQ,cQ,eQ⟩:=HRV.out i hlt;have te:=ro i hlt;rw[eQ] at te;have HQS:=Lib.hid (fun W (hb:Below w.heap.size w W)=>(show _ from(HT.out W hb).rowat rs (vals_at hlt)));rw[eQ] at HQS;have HE:=Lib.hid (fun W (hb:Below w.heap.size w W)=>((HT.out W hb).e3 te hNN).to (HC2.out i));have HSj:=Lib.hid (HSg.out i hlt);have HGj:=Lib.hid (sgn_lt0 (U.b i));clear eQ
   go_upto_region 7 with fail
   clear k0
   by_cases hp:U.b i<0
   ·have hd:=decide_eq_true (HGj.out.2 hp)
    have HP:=Lib.hid hp;clear hp
    rcases HZ.out with⟨h1,h2⟩|⟨r,h1,h2⟩
    ·subst h1
     have HZ2:Hid (LowR U (i+1) (i:Int)):=Lib.hid (.inr ⟨i,rfl,LowS.take h2 HP.out⟩);clear HZ h2;replace ag:=ag.drew
     refine wp_schH (S:=fun w'=>w'.cell? ⟨b,0,none⟩=some (.slice (some ⟨ga,0,none⟩) m cr)∧w'.cell? ⟨ga,i,none⟩=some (.slice (some ⟨gQ,0,none⟩) M cQ)∧w'.cell? ⟨gQ,N*3,none⟩=some (.bool (decide ((U.b i).num<0)))∧w'.cell? ⟨gQ,N*3+1,none⟩=some (.string (nb (U.b i).num.natAbs))∧w'.cell? ⟨gQ,N*3+1+1,none⟩=some (.string (nb (U.b i).den))) (hc:=by as_aux_lemma=>kernel_rfl) (.p 0 (.p 1 (.p 2 (.p 3 (.p 4 (.p 5 (.p 6 (.p 7 (.p 8 (.p 9 (.c 10 (.p 11 (.p 12 (.p 13 (.p 14 (.p 15 (.k 16 (.k 17 (.k 18 (.k 19 (.k 20 (.k 21 (.k 22 (.k 23 (.k 24 (.k 25 (.k 26 (.k 27 (.k 28 (.k 29 (.k 30 (.k 31 (.k 32 (.k 33 (.k 34 (.k 35 (.k 36 (.k 37 (.p 38 (.p 39 .e)))))))))))))))))))))))))))))))))))))))) [0,6,3,5] fun zA WD hA aq=>?_
     simp only[←aq.out] at ag
     clear aq
     refine⟨⟨((HT.out _ ag).box bx).at 0 rfl,HQS.out _ ag,(HE.out _ ag).1.1,(HE.out _ ag).1.2.1,(HE.out _ ag).1.2.2⟩,fun hS0=>?_⟩
     repeat' first
      |((with_reducible refine isP ?_);refine tkO ?_)
      |((with_reducible refine isK ?_);refine skO ?_)
      |(
       with_reducible refine isC (i:=10) ?_
       refine caO (i:=10) (HSj.out _) fun e wn hz=>?_
       obtain⟨rfl,hb⟩:=hz;replace ag:=ag.tr hb;clear hb
       refine⟨_,rfl,⟨((HT.out _ ag).box bx).at 0 rfl,HQS.out _ ag,(HE.out _ ag).1.1,(HE.out _ ag).1.2.1,(HE.out _ ag).1.2.2⟩,?_⟩)
     refine enP hA ?_
     clear hA
     go_wp2_with fail
     go_roundw
     case rel=>exact⟨i+1,by omega,by go_num,_,rfl,ag,HZ2⟩
     case measure=>simp[intOf];omega
    ·subst h1
     have hr:r<m:=by have:=h2.lt;omega
     have hr0:(0:Int)≤(r:Int):=by omega
     have hr1:(r:Int)<(m:Int):=by omega
     have hdr:decide ((r:Int)<0)=false:=decide_eq_false (by omega)
     obtain⟨gR,cR,eR⟩:=HRV.out r hr;have tr:=ro r hr;rw[eR] at tr;have HQR:=Lib.hid (fun W (hb:Below w.heap.size w W)=>(show _ from(HT.out W hb).rowat rs (vals_at hr)));rw[eR] at HQR;have HER:=Lib.hid (fun W (hb:Below w.heap.size w W)=>((HT.out W hb).e3 tr hNN).to (HC2.out r));have HL:=Lib.hid h2;have HCj:=Lib.hid (HCm.out i r hlt hr);have HSC:=Lib.hid (sgn_cmp (p:=U.b i) (q:=U.b r)).1
     clear eR h2 HZ;generalize Rq.sgn (U.b i-U.b r)=sg at*;replace ag:=ag.drew
     refine wp_schH (S:=fun w'=>w'.cell? ⟨b,0,none⟩=some (.slice (some ⟨ga,0,none⟩) m cr)∧w'.cell? ⟨ga,i,none⟩=some (.slice (some ⟨gQ,0,none⟩) M cQ)∧w'.cell? ⟨gQ,N*3,none⟩=some (.bool (decide ((U.b i).num<0)))∧w'.cell? ⟨gQ,N*3+1,none⟩=some (.string (nb (U.b i).num.natAbs))∧w'.cell? ⟨gQ,N*3+1+1,none⟩=some (.string (nb (U.b i).den))∧w'.cell? ⟨ga,r,none⟩=some (.slice (some ⟨gR,0,none⟩) M cR)∧w'.cell? ⟨gR,N*3,none⟩=some (.bool (decide ((U.b r).num<0)))∧w'.cell? ⟨gR,N*3+1,none⟩=some (.string (nb (U.b r).num.natAbs))∧w'.cell? ⟨gR,N*3+1+1,none⟩=some (.string (nb (U.b r).den))) (hc:=by as_aux_lemma=>kernel_rfl) (.p 0 (.p 1 (.p 2 (.p 3 (.p 4 (.p 5 (.p 6 (.p 7 (.p 8 (.p 9 (.c 10 (.p 11 (.p 12 (.p 13 (.p 14 (.p 15 (.p 16 (.p 17 (.p 18 (.p 19 (.p 20 (.p 21 (.p 22 (.p 23 (.p 24 (.p 25 (.p 26 (.p 27 (.p 28 (.p 29 (.p 30 (.p 31 (.p 32 (.p 33 (.p 34 (.p 35 (.c 36 (.p 37 (.p 38 (.p 39 .e)))))))))))))))))))))))))))))))))))))))) [0,6,3,5] fun zA WD hA aq=>?_
     simp only[←aq.out] at ag
     clear aq
     refine⟨⟨((HT.out _ ag).box bx).at 0 rfl,HQS.out _ ag,(HE.out _ ag).1.1,(HE.out _ ag).1.2.1,(HE.out _ ag).1.2.2,HQR.out _ ag,(HER.out _ ag).1.1,(HER.out _ ag).1.2.1,(HER.out _ ag).1.2.2⟩,fun hS0=>?_⟩
     repeat' first
      |((with_reducible refine isP ?_);refine tkO ?_)
      |((with_reducible refine isK ?_);refine skO ?_)
      |(
       with_reducible refine isC (i:=10) ?_
       refine caO (i:=10) (HSj.out _) fun e wn hz=>?_
       obtain⟨rfl,hb⟩:=hz;replace ag:=ag.tr hb;clear hb
       refine⟨_,rfl,⟨((HT.out _ ag).box bx).at 0 rfl,HQS.out _ ag,(HE.out _ ag).1.1,(HE.out _ ag).1.2.1,(HE.out _ ag).1.2.2,HQR.out _ ag,(HER.out _ ag).1.1,(HER.out _ ag).1.2.1,(HER.out _ ag).1.2.2⟩,?_⟩)
      |(
       with_reducible refine isC (i:=36) ?_
       refine caO (i:=36) (HCj.out _) fun e wn hz=>?_
       obtain⟨rfl,hb⟩:=hz;replace ag:=ag.tr hb;clear hb
       refine⟨_,rfl,⟨((HT.out _ ag).box bx).at 0 rfl,HQS.out _ ag,(HE.out _ ag).1.1,(HE.out _ ag).1.2.1,(HE.out _ ag).1.2.2,HQR.out _ ag,(HER.out _ ag).1.1,(HER.out _ ag).1.2.1,(HER.out _ ag).1.2.2⟩,?_⟩)
     refine enP hA ?_
     clear hA
     by_cases hc:sg<0
     ·have HZ2:Hid (LowR U (i+1) (i:Int)):=Lib.hid (.inr ⟨i,rfl,HL.out.swap HP.out (HSC.out.1 hc)⟩)
      go_wp2_with fail
      go_roundw
      case rel=>exact⟨i+1,by omega,by go_num,_,rfl,ag,HZ2⟩
      case measure=>simp[intOf];omega
     ·have HZ2:Hid (LowR U (i+1) (r:Int)):=Lib.hid (.inr ⟨r,rfl,HL.out.keep (fun h=>hc (HSC.out.2 h))⟩)
      go_wp2_with fail
      go_roundw
      case rel=>exact⟨i+1,by omega,by go_num,_,rfl,ag,HZ2⟩
      case measure=>simp[intOf];omega
   ·have hd:=decide_eq_false (fun h=>hp (HGj.out.1 h))
    have HP:=Lib.hid (Rat.not_lt.1 hp);clear hp
    have HZ2:Hid (LowR U (i+1) z):=Lib.hid (by
     rcases HZ.out with⟨h1,h2⟩|⟨r,h1,h2⟩
     ·exact .inl ⟨h1,fun q hq=>by
       rcases(by omega:q<i∨q=i) with h|rfl
       ·exact h2 q h
       ·exact HP.out⟩
     ·exact .inr ⟨r,h1,h2.keep (fun h=>by have h3:=h2.neg;have h4:=HP.out;grind)⟩)
    clear HZ;replace ag:=ag.drew
    refine wp_schH (S:=fun w'=>w'.cell? ⟨b,0,none⟩=some (.slice (some ⟨ga,0,none⟩) m cr)∧w'.cell? ⟨ga,i,none⟩=some (.slice (some ⟨gQ,0,none⟩) M cQ)∧w'.cell? ⟨gQ,N*3,none⟩=some (.bool (decide ((U.b i).num<0)))∧w'.cell? ⟨gQ,N*3+1,none⟩=some (.string (nb (U.b i).num.natAbs))∧w'.cell? ⟨gQ,N*3+1+1,none⟩=some (.string (nb (U.b i).den))) (hc:=by as_aux_lemma=>kernel_rfl) (.p 0 (.p 1 (.p 2 (.p 3 (.p 4 (.p 5 (.p 6 (.p 7 (.p 8 (.p 9 (.c 10 (.p 11 (.p 12 (.k 13 (.k 14 (.k 15 (.k 16 (.k 17 (.k 18 (.k 19 (.k 20 (.k 21 (.k 22 (.k 23 (.k 24 (.k 25 (.k 26 (.k 27 (.k 28 (.k 29 (.k 30 (.k 31 (.k 32 (.k 33 (.k 34 (.k 35 (.k 36 (.k 37 (.k 38 (.p 39 .e)))))))))))))))))))))))))))))))))))))))) [0,6,3,5] fun zA WD hA aq=>?_
    simp only[←aq.out] at ag
    clear aq
    refine⟨⟨((HT.out _ ag).box bx).at 0 rfl,HQS.out _ ag,(HE.out _ ag).1.1,(HE.out _ ag).1.2.1,(HE.out _ ag).1.2.2⟩,fun hS0=>?_⟩
    repeat' first
     |((with_reducible refine isP ?_);refine tkO ?_)
     |((with_reducible refine isK ?_);refine skO ?_)
     |(
      with_reducible refine isC (i:=10) ?_
      refine caO (i:=10) (HSj.out _) fun e wn hz=>?_
      obtain⟨rfl,hb⟩:=hz;replace ag:=ag.tr hb;clear hb
      refine⟨_,rfl,⟨((HT.out _ ag).box bx).at 0 rfl,HQS.out _ ag,(HE.out _ ag).1.1,(HE.out _ ag).1.2.1,(HE.out _ ag).1.2.2⟩,?_⟩)
    refine enP hA ?_
    clear hA
    go_wp2_with fail
    go_roundw
    case rel=>exact⟨i+1,by omega,by go_num,_,rfl,ag,HZ2⟩
    case measure=>simp[intOf];omega
  ·obtain rfl:m=i:=by omega
   have hi1: ¬(m:Int)<(m:Int):=by omega
   have hR1:=HRb.out _ ag;have hS1:=HT.out _ ag
   rcases HZ.out with⟨h1,h2⟩|⟨r,h1,h2⟩
   ·subst h1
    have HB:=Lib.hid h2;have HR1:=Lib.hid hR1;clear hR1 h2 HZ hS1 ag
    go_wp2_with fail
    go_ret
    have e1:=HNn.out;have e2:=HHe.out;subst e2 e1
    refine⟨U,HR1.out,.inr ⟨rfl,?_,?_⟩⟩
    ·rw[HUe.out]
     exact Lp.Way.zero (fun i hi=>by have:=HB.out i hi;rw[HUe.out] at this;exact this)
    ·rw[HUe.out]
     exact tab0_nb
   ·subst h1
    have hr:r<m:=h2.lt
    have hr0: ¬(r:Int)<0:=by omega
    have HL:=Lib.hid h2
    obtain⟨gc,rfl,_⟩:=(hS1.lst co).slr.get (show 0<M by omega)
    have hH0:(0:Int)≤(H:Int):=by omega
    have hH1:(H:Int)<(M:Int):=by omega
    have hHM:H<M:=by omega
    clear h2 HZ hR1
    go_upto_region 11 with fail
    clear k0;replace hS1:=hS1.drew
    refine wp_schH (S:=fun w'=>w'.cell? ⟨b,2,none⟩=some (.slice (some ⟨gc,0,none⟩) M cc)) (hc:=by as_aux_lemma=>kernel_rfl) (.p 0 (.p 1 (.p 2 (.p 3 (.p 4 (.c 5 (.p 6 (.c 7 .e)))))))) [0,4] fun zA WD hA aq=>?_
    simp only[←aq.out] at hS1
    clear aq
    refine⟨(hS1.box bx).at 2 rfl,fun hS0=>?_⟩
    repeat' first
     |((with_reducible refine isP ?_);refine tkO ?_)
     |(
      with_reducible refine isC (i:=5) ?_
      refine caO (i:=5) (HOm.out _) fun e wn hz=>?_
      obtain⟨rfl,hb⟩:=hz;replace hS1:=hS1.below hb;clear hb
      refine⟨_,rfl,(hS1.box bx).at 2 rfl,?_⟩)
     |(
      with_reducible refine isC (i:=7) ?_
      refine stL (i:=7) (x:=3) (j:=H) zm hS1 co hHM fun ws hz=>?_
      replace hS1:=hz;clear hz
      refine⟨(hS1.box (upd_o (by decide) bx)).at 2 rfl,?_⟩)
    refine enP hA ?_
    clear hA
    have HR2:Hid (RT w0 ws b m N (Lp.wc m U (Lp.hc H))):=Lib.hid (by
     have hM:=HMe.out;have hN2:=HNn.out;have hH2:=HHe.out;have hU2:=HUe.out;subst hM
     refine⟨_,_,_,_,_,_,rv_,_,hS1,(upd_o (by decide) bx),(upd_o (by decide) rs),(upd_o (by decide) bs),(upd_same _ _ _).trans ?_,fun i hi=>(upd_o (by omega) (ro i hi))⟩
     congr 1
     refine raws_congr fun j _=>?_
     subst hH2 hN2;rw[hU2,HZM.out]
     exact cost_hc.symm)
    have HNE:Hid ((Lp.wc m U (Lp.hc H)).a r H≠0):=Lib.hid (by
     have hH2:=HHe.out;have hU2:=HUe.out;subst hH2;rw[hU2]
     show Lp.mat m n A r (n+m)≠0
     unfold Lp.mat
     rw[if_neg (by omega),if_pos rfl]
     decide)
    have HSR:Hid (∀i j,i<m→j≤N→Sz (rowF N (Lp.wc m U (Lp.hc H)) i j) 40000):=Lib.hid (by
     have hN2:=HNn.out;have hH2:=HHe.out;have hU2:=HUe.out
     intro i j hi hj
     have:=HS0.out i j hi;subst hH2 hN2;rw[hU2]
     exact this hj)
    have HSC:Hid (∀j,j≤N→Sz (costF N (Lp.wc m U (Lp.hc H)) j) 40000):=Lib.hid (by
     have hN2:=HNn.out;have hH2:=HHe.out;have hU2:=HUe.out
     intro j hj
     subst hH2 hN2;rw[hU2,cost_hc];unfold upd
     split
     ·exact(Sz_int (n:= -1) (by decide) (by decide)).mono (by decide)
     ·rw[cost0];exact Sz_zero.mono (by decide))
    have HHN:=Lib.hid (show H<N by omega)
    have HN9:=Lib.hid (show N≤900 by omega)
    clear hS1
    go_wp2_with fail
    with_reducible refine(rpivot_any w0 _ b m N (Lp.wc m U (Lp.hc H)) r H HR2.out hr HHN.out HNE.out hm HN9.out HSR.out HSC.out).mono ?_
    rintro e wP ⟨⟨v,rfl⟩,hU2⟩;rw[←Lp.wc_pivot (T:=U) hr HNE.out] at hU2;clear HR2 HSR HSC
    have HW:Hid (Lp.Way m n A B (Lp.pivot U r H)):=Lib.hid (by
     have hH2:=HHe.out;have hUq:=HUe.out;have hl:=HL.out;subst hH2;rw[hUq] at hl⊢
     exact(Lp.Way.begin' hl.low).1)
    have HI:Hid (Lp.Inv0 m N (Lp.pivot U r H)):=Lib.hid (by
     have h1:=HW.out.inv;have hN2:=HNn.out;have hH2:=HHe.out;subst hH2 hN2
     exact h1)
    have HSZ:Hid (∀k V,Lp.Climb m N id (· <N) (Lp.hc H) k (Lp.pivot U r H) V→(∀i j,i<m→j≤N→Sz (rowF N (Lp.wc m V (Lp.hc H)) i j) 40000)∧(∀j,j≤N→Sz (costF N (Lp.wc m V (Lp.hc H)) j) 40000)):=Lib.hid (by
     intro k V hk
     have hw:=HW.out;have hN2:=HNn.out;have hH2:=HHe.out;subst hH2 hN2;obtain⟨h1,h2⟩:=HST.out V (hw.climbId hk)
     exact⟨fun i j hi hj=>h1 i j hi hj,h2⟩)
    have hH1N:(H:Int)+1=(N:Int):=by have:=HHN.out;have:=HNn.out;omega
    go_wp2_with fail
    with_reducible refine(rclimb_any w0 _ b m N N (Lp.pivot U r H) (Lp.hc H) hU2 (Nat.le_refl _) hm HN9.out HI.out HW.out.pos HSZ.out).mono ?_
    rintro e wC ⟨k,V,hcl,hV,hres⟩
    have HWV:Hid (Lp.Way m n A B V):=Lib.hid (by
     have hw:=HW.out;have hc:=hcl;have hN2:=HNn.out;have hH2:=HHe.out;subst hH2 hN2
     exact hw.climbId hc)
    have HVE:Hid ((Lp.wc m V (Lp.hc H)).v≠0→∀x,¬Lp.Feas m n A B x):=Lib.hid (by
     have hw:=HWV.out;have hr2:=hres;have hN2:=HNn.out;have hH2:=HHe.out;subst hH2 hN2
     intro hv x
     rcases hr2 with⟨_,he⟩|⟨_,s,hf⟩
     ·exact Lp.hcv_empty hw he hv x
     ·exact(Lp.no_free hw.inv hf).elim)
    have HSV:Hid (Sz (-(Lp.wc m V (Lp.hc H)).v) 40000):=Lib.hid (by
     have h2:=(HST.out V HWV.out).2 N (by have:=HNn.out;have:=HHe.out;omega)
     have hN2:=HNn.out;have hH2:=HHe.out;subst hH2 hN2;rw[cost_end] at h2
     exact h2)
    have hret: ∃bb:Bool,e= .returned (.bool bb):=by
     rcases hres with⟨h,_⟩|⟨h,_⟩
     ·exact⟨_,h⟩
     ·exact⟨_,h⟩
    obtain⟨bb,rfl⟩:=hret;clear hres hcl HW HI HSZ bx rs bs co ro;obtain⟨ar2,cr2,ab2,cb2,ac2,cc2,rv2,T2,hS2,hp2⟩:=id hV
    obtain⟨gc2,rfl,_⟩:=(hS2.lst hp2.co).slr.get (show 0<N+1 by omega)
    have k0:=(hS2.box hp2.bx).at 2 rfl
    obtain⟨⟨e0,e1,e2⟩,_⟩:=(hS2.e3 hp2.co (show N<N+1 by omega)).to cost_end
    dsimp only[q3] at e0 e1 e2
    rw[HMe.out] at k0
    have HSn:=Lib.hid (fun W=>rsign2_any (-(Lp.wc m V (Lp.hc H)).v) W (HSV.out.mono (by decide)))
    simp only[rv] at HSn
    clear hS2;generalize hnv: -(Lp.wc m V (Lp.hc H)).v=nv at*;have HNV:=Lib.hid hnv;clear hnv
    go_wp2_with fail
    clear k0 e0 e1 e2
    with_reducible refine(HSn.out _).mono ?_
    rintro e wD ⟨rfl,am⟩;replace hV:=hV.below am;clear am
    by_cases hv:(Lp.wc m V (Lp.hc H)).v=0
    ·have hs:Rq.sgn nv=0:=Rq.sgn_zero.2 (by rw[←HNV.out,hv];exact Rat.neg_zero)
     have hsb:(Rq.sgn nv==0)=true:=by simpa using hs
     have hsn:(Rq.sgn nv !=0)=false:=by simpa using hs
     have HG0:Hid (DrvI m n A B V 0):=Lib.hid ⟨HWV.out,fun q hq e=>Lp.hcv_zero HWV.out.inv (by have h2:=HHe.out;subst h2;exact hv) hq e,fun q hq=>by omega⟩
     clear hv HVE HNV HSV HWV HSn
     go_wp2_with fail
     go_loopw [7] (fun s7 wr=> ∃i:Nat,i≤m∧s7= .int .i64 (i:Int)∧∃V,RT w0 wr b m N (Lp.wc m V (Lp.hc H))∧Hid (DrvI m n A B V i)) (fun s7 _=>m-(intOf s7).toNat)
     case atStart=>exact⟨0,Nat.zero_le _,rfl,V,hV,HG0⟩
     case round=>
      clear hV HG0;obtain⟨i,hi,rfl,V2,hV,HG⟩:=hrel
      have hw1:IntKind.i64.wrap ((i:Int)+1)=(i:Int)+1:=by rw[IntKind.wrap_i64];omega
      obtain⟨ar3,cr3,k0⟩:=hV.bx0
      by_cases hlt:i<m
      ·have hi0:(0:Int)≤(i:Int):=by omega
       have hi1:(i:Int)<(m:Int):=by omega
       go_wp2_with fail
       clear k0
       go_loopw [8] (fun s8 wr=> ∃c:Nat,c≤H∧s8= .int .i64 (c:Int)∧∃V,RT w0 wr b m N (Lp.wc m V (Lp.hc H))∧Hid (DrvI m n A B V i)∧Hid (V.bas i=n+m→∀j,j<c→V.a i j=0)) (fun s8 _=>H-(intOf s8).toNat)
       case atStart=>exact⟨0,Nat.zero_le _,rfl,V2,hV,HG,Lib.hid (fun _ j hj=>by omega)⟩
       case round=>
        clear hV HG;obtain⟨c,hc,rfl,V3,hV,HG,HC⟩:=hrel
        have hw2:IntKind.i64.wrap ((c:Int)+1)=(c:Int)+1:=by rw[IntKind.wrap_i64];have:=HHN.out;omega
        by_cases hct:c<H
        ·have hc0:(0:Int)≤(c:Int):=by omega
         have hc1:(c:Int)<(H:Int):=by omega
         obtain⟨ga,cr4,gb,cb4,gQ,cQ,k0,k1,k2,k3,hE⟩:=hV.rowAt hlt;replace k3:wr.cell? ⟨gb,i,none⟩=some (.int .i64 (V3.bas i:Int)):=k3
         by_cases hbe:V3.bas i=H
         ·have hcM:c<N+1:=by have:=HHN.out;omega
          have hcN:c<N:=by have:=HHN.out;omega
          have hcm:(c:Int)<((N+1:Nat):Int):=by omega
          have hEa:rowF N (Lp.wc m V3 (Lp.hc H)) i c=V3.a i c:=row_lt hcN;obtain⟨⟨e0,e1,e2⟩,_⟩:=(hE c hcM).to hEa
          dsimp only[q3] at e0 e1 e2
          obtain⟨hsR,hsC⟩:=HST.out V3 HG.out.way
          have hsa:Sz (V3.a i c) 40000:=by
           have h1:=hsR i c hlt (by have:=HNn.out;omega)
           rw[row_lt (by have:=HNn.out;omega)] at h1
           exact h1
          have HSx:=Lib.hid (fun W=>rsign2_any (V3.a i c) W (hsa.mono (by decide)))
          have HSR:Hid (∀i j,i<m→j≤N→Sz (rowF N (Lp.wc m V3 (Lp.hc H)) i j) 40000):=Lib.hid (by
           have hN2:=HNn.out;subst hN2
           exact fun i j hi hj=>hsR i j hi hj)
          have HSC:Hid (∀j,j≤N→Sz (costF N (Lp.wc m V3 (Lp.hc H)) j) 40000):=Lib.hid (by
           have hN2:=HNn.out;have hH2:=HHe.out;subst hH2 hN2
           exact hsC)
          simp only[rv] at HSx
          have hbi:((V3.bas i:Int)==(H:Int))=true:=by rw[hbe];simp
          have hbj:(V3.bas i:Int)=(H:Int):=by rw[hbe]
          have HBE:=Lib.hid hbe;clear hE hEa hsR hsC hsa hbe;generalize hM2:N+1=M2 at*;clear hM2
          go_wp2_with fail
          clear k0 k1 k2 k3 e0 e1 e2
          with_reducible refine(HSx.out _).mono ?_
          rintro e wE ⟨rfl,am⟩;replace hV:=hV.below am;clear am HSx
          by_cases hpz:V3.a i c=0
          ·have hz:Rq.sgn (V3.a i c)=0:=Rq.sgn_zero.2 hpz
           have hzb:(Rq.sgn (V3.a i c)==0)=true:=by simpa using hz
           have hzn:(Rq.sgn (V3.a i c) !=0)=false:=by simpa using hz
           have HPZ:=Lib.hid hpz;clear hpz;generalize Rq.sgn (V3.a i c)=sg at*
           go_wp2_with fail
           go_roundw
           case rel=>exact⟨c+1,by omega,by go_num,V3,hV,HG,Lib.hid (fun hb j hj=>by
            rcases(by omega:j<c∨j=c) with h|rfl
            ·exact HC.out hb j h
            ·exact HPZ.out)⟩
           case measure=>simp[intOf];omega
          ·have hz: ¬Rq.sgn (V3.a i c)=0:=fun h=>hpz (Rq.sgn_zero.1 h)
           have hzb:(Rq.sgn (V3.a i c)==0)=false:=by simpa using hz
           have hzn:(Rq.sgn (V3.a i c) !=0)=true:=by simpa using hz
           have HPZ:Hid ((Lp.wc m V3 (Lp.hc H)).a i c≠0):=Lib.hid hpz
           have hdr:=HG.out.drive hlt (HBE.out.trans HHe.out.symm) (by have:=HHe.out;omega) hpz
           have HDR:=Lib.hid hdr
           have HHN2:=Lib.hid (show c<N by have:=HHN.out;omega)
           clear hpz hdr;generalize Rq.sgn (V3.a i c)=sg at*
           go_wp2_with fail
           with_reducible refine(rpivot_any w0 _ b m N (Lp.wc m V3 (Lp.hc H)) i c hV hlt HHN2.out HPZ.out hm HN9.out HSR.out HSC.out).mono ?_
           rintro e wP ⟨⟨v,rfl⟩,hU3⟩;rw[←Lp.wc_pivot (T:=V3) hlt HPZ.out] at hU3
           go_wp2_with fail
           go_roundw
           case rel=>exact⟨c+1,by omega,by go_num,_,hU3,Lib.hid HDR.out.1,Lib.hid (fun hb=>(HDR.out.2 ⟨i,hlt,hb⟩).elim)⟩
           case measure=>simp[intOf];omega
         ·have hbi:((V3.bas i:Int)==(H:Int))=false:=by simp only[beq_eq_false_iff_ne,ne_eq];omega
          have hbj: ¬(V3.bas i:Int)=(H:Int):=by omega
          have HBE:=Lib.hid hbe;clear hE hbe
          go_wp2_with fail
          go_roundw
          case rel=>exact⟨i+1,by omega,by go_num,V3,hV,Lib.hid (HG.out.next hlt (fun e=>(HBE.out (e.trans HHe.out)).elim))⟩
          case measure=>simp[intOf];omega
        ·have hc1: ¬(c:Int)<(H:Int):=by omega
         have HCH:Hid (c=n+m):=Lib.hid (by have:=HHe.out;omega)
         go_wp2_with fail
         go_roundw
         case rel=>exact⟨i+1,by omega,by go_num,V3,hV,Lib.hid (HG.out.next hlt (fun e j hj=>HC.out e j (by have:=HCH.out;omega)))⟩
         case measure=>simp[intOf];omega
      ·obtain rfl:m=i:=by omega
       have hi1: ¬(m:Int)<(m:Int):=by omega
       have HR:=Lib.hid hV;clear hV
       go_wp2_with fail
       go_ret
       have e1:=HNn.out;have e2:=HHe.out;subst e2 e1
       exact⟨_,HR.out,.inr ⟨rfl,HG.out.way.wcT _,HG.out.all⟩⟩
    ·have hs: ¬Rq.sgn nv=0:=fun h=>hv (by have h2:=Rq.sgn_zero.1 h;rw[←HNV.out] at h2;grind)
     have hsb:(Rq.sgn nv==0)=false:=by simpa using hs
     have hsn:(Rq.sgn nv !=0)=true:=by simpa using hs
     have HVX:=Lib.hid (HVE.out hv);have HR:=Lib.hid hV;clear hv HVE HNV HSV HWV HSn hV
     go_wp2_with fail
     go_ret
     have e1:=HNn.out;have e2:=HHe.out;subst e2 e1
     exact⟨_,HR.out,.inl ⟨rfl,HVX.out⟩⟩
end Go.Proofs.YtinmmkcjjlconaaGreat
