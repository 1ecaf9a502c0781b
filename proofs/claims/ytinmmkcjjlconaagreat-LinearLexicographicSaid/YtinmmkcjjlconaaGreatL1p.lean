/- Parts of the proofs about this seat's statements. -/
import Derived.Test.YtinmmkcjjlconaaGreatL1o
set_option maxRecDepth 100000
set_option maxHeartbeats 16000000
namespace Go.Proofs.YtinmmkcjjlconaaGreat
open Go.RowKit W
open Pl (nb bv bv_nb nb_size_zero)
open Lp (S S_succ)
theorem col1_any (a0:Option Addr) (m n c0:Nat) (v1 v2:Value) (A:Nat→Nat→Rat) (gP gJ i j:Nat) (w:World) (hA:MatR w (.slice a0 m c0) m n A) (bP:Rx w gP [.slice a0 m c0,v1,v2]) (bJ:Rx w gJ [.int .i64 (j:Int)]) (hi:i<m) (hj:j<n):
  Calls Tryz.prog 58 #[.int .i64 (i:Int),.pointer (some ⟨gP,0,none⟩),.pointer (some ⟨gJ,0,none⟩)] w fun e w'=>e= .returned (rv (A i j))∧Below w.heap.size w w':=by
 obtain⟨a',cap,e,h1⟩:=hA
 obtain⟨rfl,rfl⟩:a0=a'∧c0=cap:=by simpa using e
 obtain⟨b,rfl,hb,h2⟩:=h1 (by omega)
 obtain⟨vi,h3,a2,cap2,rfl,h4⟩:=h2 i hi
 obtain⟨b2,rfl,hr⟩:=h4 (by omega)
 have HD:Hid (∀W,Below w.heap.size w W→W.cell? ⟨b,i,none⟩=some (.slice (some ⟨b2,0,none⟩) n cap2)∧W.cell? ⟨b2,j*3,none⟩=some (.bool (decide ((A i j).num<0)))∧W.cell? ⟨b2,j*3+1,none⟩=some (.string (nb (A i j).num.natAbs))∧W.cell? ⟨b2,j*3+1+1,none⟩=some (.string (nb (A i j).den))):=Lib.hid (fun W ho=>⟨(ho.cell (p:=⟨b,i,none⟩) hb).trans h3,(hr.below ho).2 j hj⟩)
 have HP:=Lib.hid (fun W (ho:Below w.heap.size w W)=>(bP.below ho).at 0 rfl);have HJ:=Lib.hid (fun W (ho:Below w.heap.size w W)=>(bJ.below ho).at 0 rfl)
 have hi0:(0:Int)≤(i:Int):=by omega
 have hi1:(i:Int)<(m:Int):=by omega
 have hj0:(0:Int)≤(j:Int):=by omega
 have hj1:(j:Int)<(n:Int):=by omega
 clear e h1 h2 h3 h4 hr hb bP bJ;unfold rv;generalize A i j=x at*
 go_enter Tryz.func58,Tryz.ntmps58
 have⟨bR,ag⟩:=opn1 w [.bool false,.string ⟨#[]⟩,.string ⟨#[]⟩] 33
 go_upto_region 1 with fail
 generalize w.alloc (.cells #[.bool false,.string ⟨#[]⟩,.string ⟨#[]⟩] 33)=W0 at*;obtain⟨gR,hgR⟩: ∃g,g=w.heap.size:=⟨_,rfl⟩;rw[←hgR] at bR
 simp only[←hgR]
 have kgR:w.heap.size≤gR:=by omega
 clear hgR;replace ag:=ag.drew;replace bR:=bR.drew
 refine wp_schH (S:=(fun w'=>w'.cell? ⟨gP,0,none⟩=some (.slice (some ⟨b,0,none⟩) m c0)∧w'.cell? ⟨gJ,0,none⟩=some (.int .i64 (j:Int))∧w'.cell? ⟨b,i,none⟩=some (.slice (some ⟨b2,0,none⟩) n cap2)∧w'.cell? ⟨b2,j*3,none⟩=some (.bool (decide (x.num<0)))∧w'.cell? ⟨b2,j*3+1,none⟩=some (.string (nb x.num.natAbs))∧w'.cell? ⟨b2,j*3+1+1,none⟩=some (.string (nb x.den)))) (ps 0 8 (.c 8 .e)) [1,0,2,4] fun A WD hA aq=>?_
 simp only[←aq.out] at ag bR
 clear aq
 refine⟨?_,fun ap=>?_⟩
 ·try dsimp only
  with_reducible exact⟨HP.out _ ag,HJ.out _ ag,(HD.out _ ag).1,(HD.out _ ag).2.1,(HD.out _ ag).2.2.1,(HD.out _ ag).2.2.2⟩
 repeat(refine isP ?_;refine tkO ?_)
 refine acO fun aa KK hF hK=>?_
 dsimp only[Fa] at hF
 have⟨cgR0,fgR0,cgR1,fgR1,cgR2,fgR2⟩:=bR.all3;replace ag:=((ag.setCell (p:=⟨gR,0,none⟩) kgR (.bool (decide (x.num<0)))).setCell (p:=⟨gR,1,none⟩) kgR (.string (nb x.num.natAbs))).setCell (p:=⟨gR,2,none⟩) kgR (.string (nb x.den));replace bR:=bR.put3 (.bool (decide (x.num<0))) (.string (nb x.num.natAbs)) (.string (nb x.den))
 go_simp
 clear cgR0 fgR0 cgR1 fgR1 cgR2 fgR2;generalize ((WD.setCell ⟨gR,0,none⟩ (.bool (decide (x.num<0)))).setCell ⟨gR,1,none⟩ (.string (nb x.num.natAbs))).setCell ⟨gR,2,none⟩ (.string (nb x.den))=WS at*
 (first|refine hK.out undef _ ?_ (fun ap=>?_)|(go_wp2_with fail;refine hK.out undef _ ?_ (fun ap=>?_)))
 ·try dsimp only
  with_reducible exact⟨HP.out _ ag,HJ.out _ ag,(HD.out _ ag).1,(HD.out _ ag).2.1,(HD.out _ ag).2.2.1,(HD.out _ ag).2.2.2⟩
 clear hK KK hF aa
 refine enO hA ?_
 clear hA;have⟨cgR0,fgR0,cgR1,fgR1,cgR2,fgR2⟩:=bR.all3
 go_wp2_with fail
 refine bodyPost_ret (v:=.agg #[.bool (decide (x.num<0)),.string (nb x.num.natAbs),.string (nb x.den)]) (by simp[results,Tryz.results58,go_sem,cgR0,cgR1,cgR2]) rfl ⟨rfl,ag⟩
theorem col1_enters:Enters 58:=enters_of Tryz.func58 (by kernel_rfl) rfl
theorem col1_fn (a0:Option Addr) (m n c0:Nat) (v1 v2:Value) (A:Nat→Nat→Rat) (gP gJ j:Nat) (w:World) (hA:MatR w (.slice a0 m c0) m n A) (bP:Rx w gP [.slice a0 m c0,v1,v2]) (bJ:Rx w gJ [.int .i64 (j:Int)]) (hj:j<n):
  Fn1 NoB 58 #[] #[.pointer (some ⟨gP,0,none⟩),.pointer (some ⟨gJ,0,none⟩)] m (fun i=>A i j) w:=
 fun W i hi ho=>col1_any a0 m n c0 v1 v2 A gP gJ i j W (hA.below (ho.below0 (fun _ _ e=>e))) (bP.off ho (fun e=>e)) (bJ.off ho (fun e=>e)) hi hj
structure CkRes (m n:Nat) (A:Nat→Nat→Rat) (B C:Nat→Rat) (kx ky:Nat) (X Y:Nat→Rat) (q:Rat) (e:Ending):Prop where
  ex: ∃r:Bool,e= .returned (.bool r)∧(r=true↔kx=n∧ky=m∧Lp.Cert m n A B C X Y q)
theorem check_any (p:Value) (m n:Nat) (A:Nat→Nat→Rat) (B C:Nat→Rat) (ax:Option Addr) (kx cx:Nat) (X:Nat→Rat) (ay:Option Addr) (ky cy:Nat) (Y:Nat→Rat) (q:Rat) (w:World) (h:PR w p m n A B C) (hX:SlO w (.slice ax kx cx) kx X) (hY:SlO w (.slice ay ky cy) ky Y)
  (hm:m≤100) (hn:n≤400) (hkx:kx≤1000) (hky:ky≤1000) (hs:SzP m n A B C 40000) (sX: ∀j,j<kx→Sz (X j) 40000) (sY: ∀i,i<ky→Sz (Y i) 40000) (sq:Sz q 33554432):
  Calls Tryz.prog 17 #[p,.agg #[.slice ax kx cx,.slice ay ky cy,.bool (decide (q.num<0)),.string (nb q.num.natAbs),.string (nb q.den)]] w fun e w'=>CkRes m n A B C kx ky X Y q e∧Below w.heap.size w w':=by
 have HR:=Lib.hid (fun W (hb:Below w.heap.size w W)=>lright_any p m n A B C W (h.below hb) hm (by omega) ⟨fun i j hi hj=>(hs.a i j hi hj).mono (by decide),fun i hi=>(hs.b i hi).mono (by decide),fun j hj=>(hs.c j hj).mono (by decide)⟩)
 obtain⟨pa,pb,pc,rfl,hA,hB,hC⟩:=h.ex
 obtain⟨a0,c0,rfl⟩: ∃a c,pa= .slice a m c:=by obtain⟨a,c,e,_⟩:=hA;exact⟨a,c,e⟩
 obtain⟨a1,c1,rfl⟩: ∃a c,pb= .slice a m c:=by obtain⟨a,c,e,_⟩:=hB;exact⟨a,c,e⟩
 obtain⟨a2,c2,rfl⟩: ∃a c,pc= .slice a n c:=by obtain⟨a,c,e,_⟩:=hC;exact⟨a,c,e⟩
 have HAX:=Lib.hid (fun W (hb:Below w.heap.size w W)=>allrO_any _ kx X W (hX.below hb) (by omega) (fun j hj=>(sX j hj).mono (by decide)))
 have HAY:=Lib.hid (fun W (hb:Below w.heap.size w W)=>allrO_any _ ky Y W (hY.below hb) (by omega) (fun j hj=>(sY j hj).mono (by decide)))
 have HNX:=Lib.hid (fun W (hb:Below w.heap.size w W)=>anynO_any _ kx X W (hX.below hb) (by omega))
 have HNY:=Lib.hid (fun W (hb:Below w.heap.size w W)=>anynO_any _ ky Y W (hY.below hb) (by omega))
 have HRq:=Lib.hid (fun W=>aright_rv q W (sq.mono (by decide)))
 have HSA:=Lib.hid (fun W (hb:Below w.heap.size w W)=>hA.below hb);have HSB:=Lib.hid (fun W (hb:Below w.heap.size w W)=>hB.below hb);have HSC:=Lib.hid (fun W (hb:Below w.heap.size w W)=>hC.below hb);have HSX:=Lib.hid (fun W (hb:Below w.heap.size w W)=>hX.below hb);have HSY:=Lib.hid (fun W (hb:Below w.heap.size w W)=>hY.below hb)
 simp only[rv] at HRq
 clear h hA hB hC hX hY
 go_enter Tryz.func17,Tryz.ntmps17
 have⟨bP,bS,ag⟩:=opn2 w [.slice a0 m c0,.slice a1 m c1,.slice a2 n c2] [.slice ax kx cx,.slice ay ky cy,.bool (decide (q.num<0)),.string (nb q.num.natAbs),.string (nb q.den)] 29 35
 go_upto_region 1 with fail
 generalize (w.alloc (.cells #[.slice a0 m c0,.slice a1 m c1,.slice a2 n c2] 29)).alloc (.cells #[.slice ax kx cx,.slice ay ky cy,.bool (decide (q.num<0)),.string (nb q.num.natAbs),.string (nb q.den)] 35)=W0 at*;generalize hgS:w.heap.size+1=gS at*;obtain⟨gP,hgP⟩: ∃g,g=w.heap.size:=⟨_,rfl⟩;rw[←hgP] at bP
 simp only[←hgP]
 have ngPgS:gP≠gS:=by omega
 have kgP:w.heap.size≤gP:=by omega
 have kgS:w.heap.size≤gS:=by omega
 clear hgP hgS;have⟨cP0,fP0,cP1,fP1,cP2,fP2⟩:=bP.all3;have⟨cS0,fS0,cS1,fS1,cS2,fS2,cS3,fS3,cS4,fS4⟩:=bS.all5
 go_wp2_with fail
 clear cP0 fP0 cP1 fP1 cP2 fP2 cS0 fS0 cS1 fS1 cS2 fS2 cS3 fS3 cS4 fS4
 with_reducible refine(HR.out _ ag).mono ?_
 rintro e wX ⟨rfl,am⟩;replace ag:=ag.tr am;replace bP:=bP.below am;replace bS:=bS.below am;clear am;have⟨cP0,fP0,cP1,fP1,cP2,fP2⟩:=bP.all3;have⟨cS0,fS0,cS1,fS1,cS2,fS2,cS3,fS3,cS4,fS4⟩:=bS.all5
 go_wp2_with fail
 clear cP0 fP0 cP1 fP1 cP2 fP2 cS0 fS0 cS1 fS1 cS2 fS2 cS3 fS3 cS4 fS4
 with_reducible refine(HAX.out _ ag).mono ?_
 rintro e wX ⟨rfl,am⟩;replace ag:=ag.tr am;replace bP:=bP.below am;replace bS:=bS.below am;clear am;have⟨cP0,fP0,cP1,fP1,cP2,fP2⟩:=bP.all3;have⟨cS0,fS0,cS1,fS1,cS2,fS2,cS3,fS3,cS4,fS4⟩:=bS.all5
 go_wp2_with fail
 clear cP0 fP0 cP1 fP1 cP2 fP2 cS0 fS0 cS1 fS1 cS2 fS2 cS3 fS3 cS4 fS4
 with_reducible refine(HAY.out _ ag).mono ?_
 rintro e wX ⟨rfl,am⟩;replace ag:=ag.tr am;replace bP:=bP.below am;replace bS:=bS.below am;clear am;have⟨cP0,fP0,cP1,fP1,cP2,fP2⟩:=bP.all3;have⟨cS0,fS0,cS1,fS1,cS2,fS2,cS3,fS3,cS4,fS4⟩:=bS.all5
 go_wp2_with fail
 clear cP0 fP0 cP1 fP1 cP2 fP2 cS0 fS0 cS1 fS1 cS2 fS2 cS3 fS3 cS4 fS4
 with_reducible refine(HRq.out _).mono ?_
 rintro e wX ⟨rfl,am⟩;replace ag:=ag.tr am;replace bP:=bP.below am;replace bS:=bS.below am;clear am;clear HR HAX HAY HRq
 by_cases hkn:kx=n
 ·subst hkn
  by_cases hkm:ky=m
  ·subst hkm
   have⟨cP0,fP0,cP1,fP1,cP2,fP2⟩:=bP.all3;have⟨cS0,fS0,cS1,fS1,cS2,fS2,cS3,fS3,cS4,fS4⟩:=bS.all5
   go_wp2_with fail
   clear cP0 fP0 cP1 fP1 cP2 fP2 cS0 fS0 cS1 fS1 cS2 fS2 cS3 fS3 cS4 fS4
   with_reducible refine(HNX.out _ ag).mono ?_
   rintro e wX ⟨⟨nx,rfl,hnx⟩,am⟩;replace ag:=ag.tr am;replace bP:=bP.below am;replace bS:=bS.below am;clear am
   cases nx with
   |true=>
    obtain⟨j,hjn⟩:=hnx.1 rfl;clear hnx;have hjn:=Lib.hid hjn;have⟨cP0,fP0,cP1,fP1,cP2,fP2⟩:=bP.all3;have⟨cS0,fS0,cS1,fS1,cS2,fS2,cS3,fS3,cS4,fS4⟩:=bS.all5
    go_wp2_with fail
    clear cP0 fP0 cP1 fP1 cP2 fP2 cS0 fS0 cS1 fS1 cS2 fS2 cS3 fS3 cS4 fS4
    go_ret
    exact⟨⟨⟨false,rfl,⟨fun h=>(by cases h),fun h=>absurd (h.2.2.px.1 j hjn.out.1) (Rat.not_le.2 hjn.out.2)⟩⟩⟩,ag⟩
   | false =>
    have hnx2:Hid (∀j,j<kx→0≤X j):=Lib.hid (fun j hj=>Rat.not_lt.1 (fun hlt=>by have:=hnx.2 ⟨j,hj,hlt⟩;cases this))
    clear hnx;have⟨cP0,fP0,cP1,fP1,cP2,fP2⟩:=bP.all3;have⟨cS0,fS0,cS1,fS1,cS2,fS2,cS3,fS3,cS4,fS4⟩:=bS.all5
    go_wp2_with fail
    clear cP0 fP0 cP1 fP1 cP2 fP2 cS0 fS0 cS1 fS1 cS2 fS2 cS3 fS3 cS4 fS4
    with_reducible refine(HNY.out _ ag).mono ?_
    rintro e wX ⟨⟨ny,rfl,hny⟩,am⟩;replace ag:=ag.tr am;replace bP:=bP.below am;replace bS:=bS.below am;clear am
    cases ny with
    |true=>
     obtain⟨j,hjn⟩:=hny.1 rfl;clear hny;have hjn:=Lib.hid hjn;have⟨cP0,fP0,cP1,fP1,cP2,fP2⟩:=bP.all3;have⟨cS0,fS0,cS1,fS1,cS2,fS2,cS3,fS3,cS4,fS4⟩:=bS.all5
     go_wp2_with fail
     clear cP0 fP0 cP1 fP1 cP2 fP2 cS0 fS0 cS1 fS1 cS2 fS2 cS3 fS3 cS4 fS4
     go_ret
     exact⟨⟨⟨false,rfl,⟨fun h=>(by cases h),fun h=>absurd (h.2.2.py.1 j hjn.out.1) (Rat.not_le.2 hjn.out.2)⟩⟩⟩,ag⟩
    | false=>
     have hny2:Hid (∀j,j<ky→0≤Y j):=Lib.hid (fun j hj=>Rat.not_lt.1 (fun hlt=>by have:=hny.2 ⟨j,hj,hlt⟩;cases this))
     clear hny HNX HNY;have⟨cP0,fP0,cP1,fP1,cP2,fP2⟩:=bP.all3;have⟨cS0,fS0,cS1,fS1,cS2,fS2,cS3,fS3,cS4,fS4⟩:=bS.all5
     go_wp2_with fail
     clear cP0 fP0 cP1 fP1 cP2 fP2 cS0 fS0 cS1 fS1 cS2 fS2 cS3 fS3 cS4 fS4
     go_loopw [60] (fun s wr=> ∃i:Nat,i≤ky∧s= .int .i64 i∧(∀k,k<i→S kx (fun j=>A k j*X j)≤B k)∧Rx wr gP [.slice a0 ky c0,.slice a1 ky c1,.slice a2 kx c2]∧Rx wr gS [.slice ax kx cx,.slice ay ky cy,.bool (decide (q.num<0)),.string (nb q.num.natAbs),.string (nb q.den)]∧Below w.heap.size w wr) (fun s _=>ky-(intOf s).toNat)
     case atStart=>exact⟨0,by omega,rfl,fun k hk=>by omega,bP,bS,ag⟩
     case round=>
      clear ag bP bS;obtain⟨i,hi,rfl,hrows,bP,bS,ag⟩:=hrel
      by_cases hlt:i<ky
      ·have hi0:(0:Int)≤(i:Int):=by omega
       have hi1:(i:Int)<(ky:Int):=by omega
       obtain⟨aa,cap,ee,h1⟩:=HSA.out _ ag
       obtain⟨rfl,rfl⟩:a0=aa∧c0=cap:=by simpa using ee
       obtain⟨b,rfl,hbl,h2⟩:=h1 (by omega)
       obtain⟨vi,h3,hrow⟩:=h2 i hlt
       obtain⟨a3,c3,rfl⟩: ∃a c,vi= .slice a kx c:=by obtain⟨a,c,e,_⟩:=hrow;exact⟨a,c,e⟩
       obtain⟨ab,cb,eb,hb1⟩:=HSB.out _ ag
       obtain⟨rfl,rfl⟩:a1=ab∧c1=cb:=by simpa using eb
       obtain⟨bb,rfl,hbr⟩:=hb1 (by omega)
       have HBk:=Lib.hid (fun W (hb:Below wr.heap.size wr W)=>(hbr.below hb).2 i hlt);have HAt1:=Lib.hid (fun W (hb:Below wr.heap.size wr W)=>at_call _ kx (A i) W (hrow.below hb));have HAt2:=Lib.hid (fun W (hb:Below wr.heap.size wr W)=>at_callO _ kx X W ((HSX.out _ ag).below hb))
       have HDot:Hid (∀W B1 B2,Fn1 NoB 80 #[] #[.pointer (some ⟨B1,0,none⟩)] kx (A i) W→Fn1 NoB 80 #[] #[.pointer (some ⟨B2,0,none⟩)] kx X W→_):=Lib.hid (fun W B1 B2 h1 h2=>dot_any kx 40000 (by omega) (by omega) (A i) X _ _ _ _ _ _ W at_enters at_enters h1 h2 (fun j hj=>hs.a i j hlt hj) sX)
       have HCm:=Lib.hid (fun W=>acmp_any (S kx (fun j=>A i j*X j)) (B i) W ((Sz_S (n:=kx) (fun j hj=>Sz_mul (hs.a i j hlt hj) (sX j hj)) kx (Nat.le_refl _)).mono (by omega)) ((hs.b i hlt).mono (by decide)))
       clear ee h1 h2 eb hb1 hbr hbl
       simp only[rv] at HDot HCm
       generalize hbi:B i=bi at*;generalize hsi:S kx (fun j=>A i j*X j)=si at*;have HBI:=Lib.hid hbi;have HSI:=Lib.hid hsi;clear hbi hsi;have hr0:=Below.refl wr.heap.size wr;have ci:=h3;clear h3 hrow;have⟨cP0,fP0,cP1,fP1,cP2,fP2⟩:=bP.all3;have⟨cS0,fS0,cS1,fS1,cS2,fS2,cS3,fS3,cS4,fS4⟩:=bS.all5
       go_upto_region 8 with fail
       clear cP0 fP0 cP1 fP1 cP2 fP2 cS0 fS0 cS1 fS1 cS2 fS2 cS3 fS3 cS4 fS4;clear ci
       have hcn:=Lib.hid (show 0<Rq.sgn (si-bi)↔bi<si by rw[sgn_pos];constructor<;>intro h<;>grind)
       generalize Rq.sgn (si-bi)=sg at*;obtain⟨tb,hbb⟩: ∃tb,decide (0<sg)=tb:=⟨_,rfl⟩
       have hcv:Hid ((tb=true→bi<si)∧(tb=false→si≤bi)):=Lib.hid (by
        rw[←hbb]
        exact⟨fun h=>hcn.out.1 (of_decide_eq_true h),fun h=>Rat.not_lt.1 fun h2=>of_decide_eq_false h (hcn.out.2 h2)⟩)
       clear hcn;replace ag:=ag.drew;replace bP:=bP.drew;replace bS:=bS.drew;replace hr0:=hr0.drew
       refine wp_schH (S:=(fun w'=>w'.cell? ⟨gS,0,none⟩=some (.slice ax kx cx)∧w'.cell? ⟨gP,1,none⟩=some (.slice (some ⟨bb,0,none⟩) ky c1)∧w'.cell? ⟨bb,i*3,none⟩=some (.bool (decide (bi.num<0)))∧w'.cell? ⟨bb,i*3+1,none⟩=some (.string (nb bi.num.natAbs))∧w'.cell? ⟨bb,i*3+1+1,none⟩=some (.string (nb bi.den)))) (ps 0 3 (ps 4 2 (ps 8 5 (.c 3 (.c 6 (.c 7 (.c 13 (.p 14 .e)))))))) [6,3,2,5] fun A WD hA aq=>?_
       simp only[←aq.out] at ag bP bS hr0
       clear aq
       refine⟨?_,fun ap=>?_⟩
       ·try dsimp only
        with_reducible exact⟨bS.at 0 rfl,bP.at 1 rfl,(HBk.out _ hr0).1,(HBk.out _ hr0).2.1,(HBk.out _ hr0).2.2⟩
       repeat(refine isP ?_;refine tkO ?_)
       refine caO (HAt1.out _ hr0) fun e wX hz=>?_
       obtain⟨B1,rfl,hf1,am⟩:=hz;replace hr0:=hr0.tr am;replace ag:=ag.tr am;replace bP:=bP.below am;replace bS:=bS.below am;clear am
       refine⟨_,rfl,?_,?_⟩
       ·try dsimp only
        with_reducible exact⟨bS.at 0 rfl,bP.at 1 rfl,(HBk.out _ hr0).1,(HBk.out _ hr0).2.1,(HBk.out _ hr0).2.2⟩
       refine caO (HAt2.out _ hr0) fun e wX hz=>?_
       obtain⟨B2,rfl,hf2,am⟩:=hz;replace hr0:=hr0.tr am;replace ag:=ag.tr am;replace bP:=bP.below am;replace bS:=bS.below am;replace hf1:=hf1.below am;clear am
       refine⟨_,rfl,?_,?_⟩
       ·try dsimp only
        with_reducible exact⟨bS.at 0 rfl,bP.at 1 rfl,(HBk.out _ hr0).1,(HBk.out _ hr0).2.1,(HBk.out _ hr0).2.2⟩
       refine caO (HDot.out _ B1 B2 hf1 hf2) fun e wX hz=>?_
       obtain⟨rfl,am⟩:=hz;replace hr0:=hr0.tr am;replace ag:=ag.tr am;replace bP:=bP.below am;replace bS:=bS.below am;replace hf1:=hf1.below am;replace hf2:=hf2.below am;clear am;clear hf1;clear hf2
       refine⟨_,rfl,?_,?_⟩
       ·try dsimp only
        with_reducible exact⟨bS.at 0 rfl,bP.at 1 rfl,(HBk.out _ hr0).1,(HBk.out _ hr0).2.1,(HBk.out _ hr0).2.2⟩
       refine caO (HCm.out _) fun e wX hz=>?_
       obtain⟨rfl,am⟩:=hz;replace hr0:=hr0.tr am;replace ag:=ag.tr am;replace bP:=bP.below am;replace bS:=bS.below am;clear am
       refine⟨_,rfl,?_,?_⟩
       ·try dsimp only
        with_reducible exact⟨bS.at 0 rfl,bP.at 1 rfl,(HBk.out _ hr0).1,(HBk.out _ hr0).2.1,(HBk.out _ hr0).2.2⟩
       repeat(refine isP ?_;refine tkO ?_)
       refine enO hA ?_
       clear hA;clear hbb
       cases tb with
       |true=>
        go_wp2_with fail
        go_ret
        exact⟨⟨⟨false,rfl,⟨fun h=>(by cases h),fun h=>absurd (h.2.2.px.2 i hlt) (by rw[HBI.out,HSI.out];exact Rat.not_le.2 (hcv.out.1 (by simp)))⟩⟩⟩,ag⟩
       | false=>
        go_wp2_with fail
        go_roundw
        case rel=>exact⟨i+1,by omega,by go_num,fun k hk=>by
         by_cases e:k=i
         ·subst e;rw[HBI.out,HSI.out];exact hcv.out.2 (by simp)
         ·exact hrows k (by omega),bP,bS,ag⟩
        case measure=>simp[intOf];omega
      ·obtain rfl:i=ky:=by omega
       have HRows:=Lib.hid hrows;clear hrows;have⟨cP0,fP0,cP1,fP1,cP2,fP2⟩:=bP.all3;have⟨cS0,fS0,cS1,fS1,cS2,fS2,cS3,fS3,cS4,fS4⟩:=bS.all5
       go_wp2_with fail
       clear cP0 fP0 cP1 fP1 cP2 fP2 cS0 fS0 cS1 fS1 cS2 fS2 cS3 fS3 cS4 fS4
       go_loopw [84] (fun s wr=> ∃j:Nat,j≤kx∧s= .int .i64 j∧(∀k,k<j→C k≤S i (fun x=>A x k*Y x))∧Rx wr gP [.slice a0 i c0,.slice a1 i c1,.slice a2 kx c2]∧Rx wr gS [.slice ax kx cx,.slice ay i cy,.bool (decide (q.num<0)),.string (nb q.num.natAbs),.string (nb q.den)]∧Below w.heap.size w wr) (fun s _=>kx-(intOf s).toNat)
       case atStart=>exact⟨0,by omega,rfl,fun k hk=>by omega,bP,bS,ag⟩
       case round=>
        clear ag bP bS;obtain⟨j,hj,rfl,hcols,bP,bS,ag⟩:=hrel
        by_cases hlt:j<kx
        ·have hj0:(0:Int)≤(j:Int):=by omega
         have hj1:(j:Int)<(kx:Int):=by omega
         obtain⟨ac,cc,ec,hc1⟩:=HSC.out _ ag
         obtain⟨rfl,rfl⟩:a2=ac∧c2=cc:=by simpa using ec
         obtain⟨bc,rfl,hcr⟩:=hc1 (by omega)
         obtain⟨d0,d1,d2⟩:=hcr.2 j hlt;have HAt:=Lib.hid (fun W (hb:Below w.heap.size w W)=>at_callO _ i Y W (HSY.out W hb))
         have HDot:Hid (∀W B1 gJ,Below w.heap.size w W→Rx W gP [.slice a0 i c0,.slice a1 i c1,.slice (some ⟨bc,0,none⟩) kx c2]→Rx W gJ [.int .i64 (j:Int)]→Fn1 NoB 80 #[] #[.pointer (some ⟨B1,0,none⟩)] i Y W→_):=Lib.hid (fun W B1 gJ hb hP hJ h1=>dot_any i 40000 (by omega) (by omega) (fun x=>A x j) Y _ _ _ _ _ _ W col1_enters at_enters (col1_fn a0 i kx c0 _ _ A gP gJ j W (HSA.out W hb) hP hJ hlt) h1 (fun x hx=>hs.a x j hx hlt) sY)
         have HCm:=Lib.hid (fun W=>acmp_any (S i (fun x=>A x j*Y x)) (C j) W ((Sz_S (n:=i) (fun x hx=>Sz_mul (hs.a x j hx hlt) (sY x hx)) i (Nat.le_refl _)).mono (by omega)) ((hs.c j hlt).mono (by decide)))
         clear ec hc1 hcr
         simp only[rv] at HDot HCm
         generalize hcj:C j=cj at*;generalize hsj:S i (fun x=>A x j*Y x)=sj at*;have HCJ:=Lib.hid hcj;have HSJ:=Lib.hid hsj;clear hcj hsj;have dP:=bP.lt;have dS:=bS.lt
         have hacc2:=(ag.alloc ag.size (.cells #[.int .i64 (j:Int)] 3)).alloc (by have:=ag.size;simp;omega) (.cells #[.bool (decide (cj.num<0)),.string (nb cj.num.natAbs),.string (nb cj.den)] 33)
         have bJ:Rx ((wr.alloc (.cells #[.int .i64 (j:Int)] 3)).alloc (.cells #[.bool (decide (cj.num<0)),.string (nb cj.num.natAbs),.string (nb cj.den)] 33)) wr.heap.size [.int .i64 (j:Int)]:=(Rx.new wr _ rfl [.int .i64 (j:Int)] 3).alloc _
         have bC:Rx ((wr.alloc (.cells #[.int .i64 (j:Int)] 3)).alloc (.cells #[.bool (decide (cj.num<0)),.string (nb cj.num.natAbs),.string (nb cj.den)] 33)) (wr.heap.size+1) [.bool (decide (cj.num<0)),.string (nb cj.num.natAbs),.string (nb cj.den)]:=Rx.new (wr.alloc (.cells #[.int .i64 (j:Int)] 3)) _ (by simp) [.bool (decide (cj.num<0)),.string (nb cj.num.natAbs),.string (nb cj.den)] 33
         have bP2:=(bP.alloc (.cells #[.int .i64 (j:Int)] 3)).alloc (.cells #[.bool (decide (cj.num<0)),.string (nb cj.num.natAbs),.string (nb cj.den)] 33);have bS2:=(bS.alloc (.cells #[.int .i64 (j:Int)] 3)).alloc (.cells #[.bool (decide (cj.num<0)),.string (nb cj.num.natAbs),.string (nb cj.den)] 33);have⟨cP0,fP0,cP1,fP1,cP2,fP2⟩:=bP.all3
         go_upto_region 15 with fail
         clear cP0 fP0 cP1 fP1 cP2 fP2;clear d0 d1 d2 bP bS ag
         have nPJ:gP≠wr.heap.size:=by omega
         have nSJ:gS≠wr.heap.size:=by omega
         generalize wr.heap.size+1=gC at*;generalize wr.heap.size=gJ at*;generalize (wr.alloc (.cells #[.int .i64 (j:Int)] 3)).alloc (.cells #[.bool (decide (cj.num<0)),.string (nb cj.num.natAbs),.string (nb cj.den)] 33)=WC at*;have ag:=hacc2;have bP:=bP2;have bS:=bS2;clear hacc2 bP2 bS2 dP dS nPJ nSJ
         have hcn:=Lib.hid (show Rq.sgn (sj-cj)<0↔sj<cj by
          have h1:=Rq.sgn_lt (q:=sj-cj);have h2:=Rq.sgn_cases (sj-cj)
          constructor
          ·intro h;have:=h1.1 (by omega);grind
          ·intro h;have:=h1.2 (by grind);omega)
         generalize Rq.sgn (sj-cj)=sg at*;obtain⟨tb,hbb⟩: ∃tb,decide (sg<0)=tb:=⟨_,rfl⟩
         have hcv:Hid ((tb=true→sj<cj)∧(tb=false→cj≤sj)):=Lib.hid (by
          rw[←hbb]
          exact⟨fun h=>hcn.out.1 (of_decide_eq_true h),fun h=>Rat.not_lt.1 fun h2=>of_decide_eq_false h (hcn.out.2 h2)⟩)
         clear hcn;replace ag:=ag.drew;replace bP:=bP.drew;replace bS:=bS.drew;replace bJ:=bJ.drew;replace bC:=bC.drew
         refine wp_schH (S:=(fun w'=>w'.cell? ⟨gP,0,none⟩=some (.slice a0 i c0)∧w'.cell? ⟨gS,1,none⟩=some (.slice ay i cy)∧w'.cell? ⟨gC,0,none⟩=some (.bool (decide (cj.num<0)))∧w'.cell? ⟨gC,1,none⟩=some (.string (nb cj.num.natAbs))∧w'.cell? ⟨gC,2,none⟩=some (.string (nb cj.den)))) (ps 0 6 (.p 8 (.c 6 (.c 7 (.c 9 (.p 10 .e)))))) [2,9,3,8] fun A WD hA aq=>?_
         simp only[←aq.out] at ag bP bS bJ bC
         clear aq
         refine⟨?_,fun ap=>?_⟩
         ·try dsimp only
          with_reducible exact⟨bP.at 0 rfl,bS.at 1 rfl,bC.at 0 rfl,bC.at 1 rfl,bC.at 2 rfl⟩
         repeat(refine isP ?_;refine tkO ?_)
         refine caO (HAt.out _ ag) fun e wX hz=>?_
         obtain⟨B1,rfl,hf1,am⟩:=hz;replace ag:=ag.tr am;replace bP:=bP.below am;replace bS:=bS.below am;replace bJ:=bJ.below am;replace bC:=bC.below am;clear am
         refine⟨_,rfl,?_,?_⟩
         ·try dsimp only
          with_reducible exact⟨bP.at 0 rfl,bS.at 1 rfl,bC.at 0 rfl,bC.at 1 rfl,bC.at 2 rfl⟩
         refine caO (HDot.out _ B1 gJ ag bP bJ hf1) fun e wX hz=>?_
         obtain⟨rfl,am⟩:=hz;replace ag:=ag.tr am;replace bP:=bP.below am;replace bS:=bS.below am;replace bJ:=bJ.below am;replace bC:=bC.below am;replace hf1:=hf1.below am;clear am;clear hf1
         refine⟨_,rfl,?_,?_⟩
         ·try dsimp only
          with_reducible exact⟨bP.at 0 rfl,bS.at 1 rfl,bC.at 0 rfl,bC.at 1 rfl,bC.at 2 rfl⟩
         refine caO (HCm.out _) fun e wX hz=>?_
         obtain⟨rfl,am⟩:=hz;replace ag:=ag.tr am;replace bP:=bP.below am;replace bS:=bS.below am;replace bJ:=bJ.below am;replace bC:=bC.below am;clear am
         refine⟨_,rfl,?_,?_⟩
         ·try dsimp only
          with_reducible exact⟨bP.at 0 rfl,bS.at 1 rfl,bC.at 0 rfl,bC.at 1 rfl,bC.at 2 rfl⟩
         repeat(refine isP ?_;refine tkO ?_)
         refine enO hA ?_
         clear hA;clear hbb
         cases tb with
         |true=>
          go_wp2_with fail
          go_ret
          exact⟨⟨⟨false,rfl,⟨fun h=>(by cases h),fun h=>absurd (h.2.2.py.2 j hlt) (by rw[HCJ.out,HSJ.out];exact Rat.not_le.2 (hcv.out.1 (by simp)))⟩⟩⟩,ag⟩
         | false=>
          go_wp2_with fail
          go_roundw
          case rel=>exact⟨j+1,by omega,by go_num,fun k hk=>by
           by_cases e:k=j
           ·subst e;rw[HCJ.out,HSJ.out];exact hcv.out.2 (by simp)
           ·exact hcols k (by omega),bP,bS,ag⟩
          case measure=>simp[intOf];omega
        ·obtain rfl:j=kx:=by omega
         have HCols:=Lib.hid hcols;clear hcols;have HAtC:=Lib.hid (fun W (hb:Below w.heap.size w W)=>at_call _ j C W (HSC.out W hb));have HAtX:=Lib.hid (fun W (hb:Below w.heap.size w W)=>at_callO _ j X W (HSX.out W hb));have HAtB:=Lib.hid (fun W (hb:Below w.heap.size w W)=>at_call _ i B W (HSB.out W hb));have HAtY:=Lib.hid (fun W (hb:Below w.heap.size w W)=>at_callO _ i Y W (HSY.out W hb))
         have HD1:Hid (∀W B1 B2,Fn1 NoB 80 #[] #[.pointer (some ⟨B1,0,none⟩)] j C W→Fn1 NoB 80 #[] #[.pointer (some ⟨B2,0,none⟩)] j X W→_):=Lib.hid (fun W B1 B2 h1 h2=>dot_any j 40000 (by omega) (by omega) C X _ _ _ _ _ _ W at_enters at_enters h1 h2 hs.c sX)
         have HD2:Hid (∀W B1 B2,Fn1 NoB 80 #[] #[.pointer (some ⟨B1,0,none⟩)] i B W→Fn1 NoB 80 #[] #[.pointer (some ⟨B2,0,none⟩)] i Y W→_):=Lib.hid (fun W B1 B2 h1 h2=>dot_any i 40000 (by omega) (by omega) B Y _ _ _ _ _ _ W at_enters at_enters h1 h2 hs.b sY)
         have HC1:=Lib.hid (fun W=>acmp_any (S j (fun x=>C x*X x)) q W ((Sz_S (n:=j) (fun x hx=>Sz_mul (hs.c x hx) (sX x hx)) j (Nat.le_refl _)).mono (by omega)) sq)
         have HC2:=Lib.hid (fun W=>acmp_any (S i (fun x=>B x*Y x)) q W ((Sz_S (n:=i) (fun x hx=>Sz_mul (hs.b x hx) (sY x hx)) i (Nat.le_refl _)).mono (by omega)) sq)
         have HCert:Hid (S j (fun x=>C x*X x)=q→S i (fun x=>B x*Y x)=q→Lp.Cert i j A B C X Y q):=Lib.hid (fun h1 h2=>⟨⟨hnx2.out,HRows.out⟩,⟨hny2.out,HCols.out⟩,h1,h2⟩);clear HSA HSB HSC HSX HSY HRows HCols hnx2 hny2 hs sX sY sq
         simp only[rv] at HD1 HD2 HC1 HC2
         generalize hsu:S j (fun x=>C x*X x)=su at*;generalize hsv:S i (fun x=>B x*Y x)=sv at*;have HSU:=Lib.hid hsu;have HSV:=Lib.hid hsv;clear hsu hsv
         go_upto_region 18 with fail
         by_cases hne:su=q
         ·have h1:=Lib.hid hne
          clear hne;have hz:=Rq.sgn_zero (q:=su-q)
          rw[show Rq.sgn (su-q)=0 from hz.2 (by rw[h1.out];grind)] at HC1
          clear hz
          have hcn:=Lib.hid (show Rq.sgn (sv-q)=0↔sv=q by rw[Rq.sgn_zero];constructor<;>intro h<;>grind)
          generalize Rq.sgn (sv-q)=sg at*;replace ag:=ag.drew;replace bP:=bP.drew;replace bS:=bS.drew
          refine wp_schH (S:=(fun w'=>w'.cell? ⟨gP,1,none⟩=some (.slice a1 i c1)∧w'.cell? ⟨gP,2,none⟩=some (.slice a2 j c2)∧w'.cell? ⟨gS,0,none⟩=some (.slice ax j cx)∧w'.cell? ⟨gS,1,none⟩=some (.slice ay i cy)∧w'.cell? ⟨gS,2,none⟩=some (.bool (decide (q.num<0)))∧w'.cell? ⟨gS,3,none⟩=some (.string (nb q.num.natAbs))∧w'.cell? ⟨gS,4,none⟩=some (.string (nb q.den)))) (ps 0 5 (ps 6 2 (ps 10 2 (.c 5 (.c 8 (.c 9 (.c 12 (ps 13 7 (ps 21 2 (ps 25 2 (.c 20 (.c 23 (.c 24 (.c 27 (ps 28 3 .e))))))))))))))) [2,3] fun A WD hA aq=>?_
          simp only[←aq.out] at ag bP bS
          clear aq
          refine⟨?_,fun ap=>?_⟩
          ·try dsimp only
           with_reducible exact⟨bP.at 1 rfl,bP.at 2 rfl,bS.at 0 rfl,bS.at 1 rfl,bS.at 2 rfl,bS.at 3 rfl,bS.at 4 rfl⟩
          repeat(refine isP ?_;refine tkO ?_)
          refine caO (HAtC.out _ ag) fun e wX hz=>?_
          obtain⟨B1,rfl,hf1,am⟩:=hz;replace ag:=ag.tr am;replace bP:=bP.below am;replace bS:=bS.below am;clear am
          refine⟨_,rfl,?_,?_⟩
          ·try dsimp only
           with_reducible exact⟨bP.at 1 rfl,bP.at 2 rfl,bS.at 0 rfl,bS.at 1 rfl,bS.at 2 rfl,bS.at 3 rfl,bS.at 4 rfl⟩
          refine caO (HAtX.out _ ag) fun e wX hz=>?_
          obtain⟨B2,rfl,hf2,am⟩:=hz;replace ag:=ag.tr am;replace bP:=bP.below am;replace bS:=bS.below am;replace hf1:=hf1.below am;clear am
          refine⟨_,rfl,?_,?_⟩
          ·try dsimp only
           with_reducible exact⟨bP.at 1 rfl,bP.at 2 rfl,bS.at 0 rfl,bS.at 1 rfl,bS.at 2 rfl,bS.at 3 rfl,bS.at 4 rfl⟩
          refine caO (HD1.out _ B1 B2 hf1 hf2) fun e wX hz=>?_
          obtain⟨rfl,am⟩:=hz;replace ag:=ag.tr am;replace bP:=bP.below am;replace bS:=bS.below am;replace hf1:=hf1.below am;replace hf2:=hf2.below am;clear am;clear hf1;clear hf2
          refine⟨_,rfl,?_,?_⟩
          ·try dsimp only
           with_reducible exact⟨bP.at 1 rfl,bP.at 2 rfl,bS.at 0 rfl,bS.at 1 rfl,bS.at 2 rfl,bS.at 3 rfl,bS.at 4 rfl⟩
          refine caO (HC1.out _) fun e wX hz=>?_
          obtain⟨rfl,am⟩:=hz;replace ag:=ag.tr am;replace bP:=bP.below am;replace bS:=bS.below am;clear am
          refine⟨_,rfl,?_,?_⟩
          ·try dsimp only
           with_reducible exact⟨bP.at 1 rfl,bP.at 2 rfl,bS.at 0 rfl,bS.at 1 rfl,bS.at 2 rfl,bS.at 3 rfl,bS.at 4 rfl⟩
          repeat(refine isP ?_;refine tkO ?_)
          refine caO (HAtB.out _ ag) fun e wX hz=>?_
          obtain⟨B3,rfl,hf3,am⟩:=hz;replace ag:=ag.tr am;replace bP:=bP.below am;replace bS:=bS.below am;clear am
          refine⟨_,rfl,?_,?_⟩
          ·try dsimp only
           with_reducible exact⟨bP.at 1 rfl,bP.at 2 rfl,bS.at 0 rfl,bS.at 1 rfl,bS.at 2 rfl,bS.at 3 rfl,bS.at 4 rfl⟩
          refine caO (HAtY.out _ ag) fun e wX hz=>?_
          obtain⟨B4,rfl,hf4,am⟩:=hz;replace ag:=ag.tr am;replace bP:=bP.below am;replace bS:=bS.below am;replace hf3:=hf3.below am;clear am
          refine⟨_,rfl,?_,?_⟩
          ·try dsimp only
           with_reducible exact⟨bP.at 1 rfl,bP.at 2 rfl,bS.at 0 rfl,bS.at 1 rfl,bS.at 2 rfl,bS.at 3 rfl,bS.at 4 rfl⟩
          refine caO (HD2.out _ B3 B4 hf3 hf4) fun e wX hz=>?_
          obtain⟨rfl,am⟩:=hz;replace ag:=ag.tr am;replace bP:=bP.below am;replace bS:=bS.below am;replace hf3:=hf3.below am;replace hf4:=hf4.below am;clear am;clear hf3;clear hf4
          refine⟨_,rfl,?_,?_⟩
          ·try dsimp only
           with_reducible exact⟨bP.at 1 rfl,bP.at 2 rfl,bS.at 0 rfl,bS.at 1 rfl,bS.at 2 rfl,bS.at 3 rfl,bS.at 4 rfl⟩
          refine caO (HC2.out _) fun e wX hz=>?_
          obtain⟨rfl,am⟩:=hz;replace ag:=ag.tr am;replace bP:=bP.below am;replace bS:=bS.below am;clear am
          refine⟨_,rfl,?_,?_⟩
          ·try dsimp only
           with_reducible exact⟨bP.at 1 rfl,bP.at 2 rfl,bS.at 0 rfl,bS.at 1 rfl,bS.at 2 rfl,bS.at 3 rfl,bS.at 4 rfl⟩
          repeat(refine isP ?_;refine tkO ?_)
          refine enO hA ?_
          clear hA
          go_wp2_with fail
          go_ret
          exact⟨⟨⟨_,rfl,⟨fun h=>⟨rfl,rfl,HCert.out h1.out (hcn.out.1 (of_decide_eq_true h))⟩,fun h=>decide_eq_true (hcn.out.2 (HSV.out.symm.trans h.2.2.vy))⟩⟩⟩,ag⟩
         ·have hcn: ¬Rq.sgn (su-q)=0:=fun h=>hne (by have:=Rq.sgn_zero.1 h;grind)
          generalize Rq.sgn (su-q)=sg at*;have hcd:decide (sg=0)=false:=decide_eq_false hcn
          have hce:(sg==0)=false:=by simpa using hcn
          have hne:=Lib.hid hne;replace hne:=hne.out;replace ag:=ag.drew;replace bP:=bP.drew;replace bS:=bS.drew
          refine wp_schH (S:=(fun w'=>w'.cell? ⟨gP,1,none⟩=some (.slice a1 i c1)∧w'.cell? ⟨gP,2,none⟩=some (.slice a2 j c2)∧w'.cell? ⟨gS,0,none⟩=some (.slice ax j cx)∧w'.cell? ⟨gS,1,none⟩=some (.slice ay i cy)∧w'.cell? ⟨gS,2,none⟩=some (.bool (decide (q.num<0)))∧w'.cell? ⟨gS,3,none⟩=some (.string (nb q.num.natAbs))∧w'.cell? ⟨gS,4,none⟩=some (.string (nb q.den)))) (ps 0 5 (ps 6 2 (ps 10 2 (.c 5 (.c 8 (.c 9 (.c 12 (ps 13 2 (ks 15 14 (ps 29 2 .e)))))))))) [2,3] fun A WD hA aq=>?_
          simp only[←aq.out] at ag bP bS
          clear aq
          refine⟨?_,fun ap=>?_⟩
          ·try dsimp only
           with_reducible exact⟨bP.at 1 rfl,bP.at 2 rfl,bS.at 0 rfl,bS.at 1 rfl,bS.at 2 rfl,bS.at 3 rfl,bS.at 4 rfl⟩
          repeat(refine isP ?_;refine tkO ?_)
          refine caO (HAtC.out _ ag) fun e wX hz=>?_
          obtain⟨B1,rfl,hf1,am⟩:=hz;replace ag:=ag.tr am;replace bP:=bP.below am;replace bS:=bS.below am;clear am
          refine⟨_,rfl,?_,?_⟩
          ·try dsimp only
           with_reducible exact⟨bP.at 1 rfl,bP.at 2 rfl,bS.at 0 rfl,bS.at 1 rfl,bS.at 2 rfl,bS.at 3 rfl,bS.at 4 rfl⟩
          refine caO (HAtX.out _ ag) fun e wX hz=>?_
          obtain⟨B2,rfl,hf2,am⟩:=hz;replace ag:=ag.tr am;replace bP:=bP.below am;replace bS:=bS.below am;replace hf1:=hf1.below am;clear am
          refine⟨_,rfl,?_,?_⟩
          ·try dsimp only
           with_reducible exact⟨bP.at 1 rfl,bP.at 2 rfl,bS.at 0 rfl,bS.at 1 rfl,bS.at 2 rfl,bS.at 3 rfl,bS.at 4 rfl⟩
          refine caO (HD1.out _ B1 B2 hf1 hf2) fun e wX hz=>?_
          obtain⟨rfl,am⟩:=hz;replace ag:=ag.tr am;replace bP:=bP.below am;replace bS:=bS.below am;replace hf1:=hf1.below am;replace hf2:=hf2.below am;clear am;clear hf1;clear hf2
          refine⟨_,rfl,?_,?_⟩
          ·try dsimp only
           with_reducible exact⟨bP.at 1 rfl,bP.at 2 rfl,bS.at 0 rfl,bS.at 1 rfl,bS.at 2 rfl,bS.at 3 rfl,bS.at 4 rfl⟩
          refine caO (HC1.out _) fun e wX hz=>?_
          obtain⟨rfl,am⟩:=hz;replace ag:=ag.tr am;replace bP:=bP.below am;replace bS:=bS.below am;clear am
          refine⟨_,rfl,?_,?_⟩
          ·try dsimp only
           with_reducible exact⟨bP.at 1 rfl,bP.at 2 rfl,bS.at 0 rfl,bS.at 1 rfl,bS.at 2 rfl,bS.at 3 rfl,bS.at 4 rfl⟩
          repeat first|(refine isP ?_;refine tkO ?_)|(refine isK ?_;refine skO ?_)
          refine enO hA ?_
          clear hA
          go_wp2_with fail
          go_ret
          exact⟨⟨⟨false,rfl,⟨fun h=>(by cases h),fun h=>absurd (HSU.out.symm.trans h.2.2.vx) hne⟩⟩⟩,ag⟩
  ·have hkmi: ¬(ky:Int)=(m:Int):=by omega
   have⟨cP0,fP0,cP1,fP1,cP2,fP2⟩:=bP.all3;have⟨cS0,fS0,cS1,fS1,cS2,fS2,cS3,fS3,cS4,fS4⟩:=bS.all5
   go_wp2_with fail
   clear cP0 fP0 cP1 fP1 cP2 fP2 cS0 fS0 cS1 fS1 cS2 fS2 cS3 fS3 cS4 fS4
   go_ret
   exact⟨⟨⟨false,rfl,⟨fun h=>(by cases h),fun h=>absurd h.2.1 hkm⟩⟩⟩,ag⟩
 ·have hkni: ¬(kx:Int)=(n:Int):=by omega
  have⟨cP0,fP0,cP1,fP1,cP2,fP2⟩:=bP.all3;have⟨cS0,fS0,cS1,fS1,cS2,fS2,cS3,fS3,cS4,fS4⟩:=bS.all5
  go_wp2_with fail
  clear cP0 fP0 cP1 fP1 cP2 fP2 cS0 fS0 cS1 fS1 cS2 fS2 cS3 fS3 cS4 fS4
  go_ret
  exact⟨⟨⟨false,rfl,⟨fun h=>(by cases h),fun h=>absurd h.1 hkn⟩⟩⟩,ag⟩
end Go.Proofs.YtinmmkcjjlconaaGreat
