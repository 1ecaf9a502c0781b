/- Parts of the proofs about this seat's statements. -/
import Derived.Test.YtinmmkcjjlconaaGreatL1q
import Derived.OpenShut
set_option maxRecDepth 100000
set_option maxHeartbeats 16000000
namespace Go.Proofs.YtinmmkcjjlconaaGreat
open Go.RowKit W
open Pl (nb bv bv_nb nb_size_zero)
open Lp (S S_succ)
def IntsK(q:IntKind)(w:World)(v:Value)(zs:List Int):Prop:= ∃a cap,v= .slice a zs.length cap∧zs.length≤cap∧cap≤9223372036854775807∧(∀z∈zs,(Lit.int q z).wf=true)∧(0<zs.length→∃b off,a=some ⟨b,off,none⟩∧b<w.heap.size∧∀i,i<zs.length→w.cell? ⟨b,off+i,none⟩=some (.int q (zs.getD i 0)))
theorem IntsK.below {q:IntKind} {w w':World} {v:Value} {zs:List Int} (h:IntsK q w v zs) (hb:Below w.heap.size w w'):IntsK q w' v zs:=by
 obtain⟨a,cap,e,h1,h2,h3,h4⟩:=h
 refine⟨a,cap,e,h1,h2,h3,fun h0=>?_⟩
 obtain⟨b,off,e2,hl,hc⟩:=h4 h0
 exact⟨b,off,e2,Nat.lt_of_lt_of_le hl hb.size,fun i hi=>(hb.cell (p:=⟨b,off+i,none⟩) hl).trans (hc i hi)⟩
def pN(z:Int):Int:=Int.tmod z 13-3
def pD(z:Int):Int:=1+Int.tmod (Int.tmod (Int.tdiv z 13) 4+4) 4
def pnum(zs:List Int)(k:Nat):Rat:=if zs.length=0 then 0 else((pN (zs.getD (k %zs.length) 0):Int):Rat)/((pD (zs.getD (k %zs.length) 0):Int):Rat)
theorem pN_bd (z:Int): -15≤pN z∧pN z≤9:=by
 unfold pN
 have:=Pl.tmod_bd z (show(0:Int)<13 by decide)
 omega
theorem pD_bd (z:Int):1≤pD z∧pD z≤4:=by
 unfold pD
 have h1:=Pl.tmod_bd (Int.tdiv z 13) (show(0:Int)<4 by decide)
 have h2:=Pl.tmod_bd (Int.tmod (Int.tdiv z 13) 4+4) (show(0:Int)<4 by decide)
 have h3:=Int.tmod_nonneg 4 (show 0≤Int.tmod (Int.tdiv z 13) 4+4 by omega)
 omega
theorem rzero_any (w:World):Calls Tryz.prog 48 #[] w fun e w'=>e= .returned (rv (0:Rat))∧Below w.heap.size w w':=by
 have HO:Hid (∀W,Calls Tryz.prog 18 #[.int .i64 0] W fun e w'=>e= .returned (rv (0:Rat))∧Below W.heap.size W w'):=Lib.hid (fun W=>rof2_any 0 W (by decide) (by decide))
 simp only[rv] at HO
 unfold rv;generalize (0:Rat)=z at*
 go_enter Tryz.func48,Tryz.ntmps48
 have⟨bR,ag⟩:=opn1 w [.bool false,.string ⟨#[]⟩,.string ⟨#[]⟩] 33
 go_upto_region 1 with fail
 generalize w.alloc (.cells #[.bool false,.string ⟨#[]⟩,.string ⟨#[]⟩] 33)=W0 at*;obtain⟨gR,hgR⟩: ∃g,g=w.heap.size:=⟨_,rfl⟩;rw[←hgR] at bR
 simp only[←hgR]
 have kgR:w.heap.size≤gR:=by omega
 clear hgR
 go_wp2_with fail
 with_reducible refine(HO.out _).mono ?_
 rintro e wZ ⟨rfl,am⟩;replace ag:=ag.tr am;replace bR:=bR.below am;clear am;have⟨cgR0,fgR0,cgR1,fgR1,cgR2,fgR2⟩:=bR.all3;replace ag:=((ag.setCell (p:=⟨gR,0,none⟩) kgR (.bool (decide (z.num<0)))).setCell (p:=⟨gR,1,none⟩) kgR (.string (nb z.num.natAbs))).setCell (p:=⟨gR,2,none⟩) kgR (.string (nb z.den));replace bR:=bR.put3 (.bool (decide (z.num<0))) (.string (nb z.num.natAbs)) (.string (nb z.den))
 go_wp2_with fail
 clear cgR0 fgR0 cgR1 fgR1 cgR2 fgR2;generalize ((wZ.setCell ⟨gR,0,none⟩ (.bool (decide (z.num<0)))).setCell ⟨gR,1,none⟩ (.string (nb z.num.natAbs))).setCell ⟨gR,2,none⟩ (.string (nb z.den))=WS at*;have⟨cgR0,fgR0,cgR1,fgR1,cgR2,fgR2⟩:=bR.all3
 refine bodyPost_ret (v:=.agg #[.bool (decide (z.num<0)),.string (nb z.num.natAbs),.string (nb z.den)]) (by simp[results,Tryz.results48,go_sem,cgR0,cgR1,cgR2]) rfl ⟨rfl,ag⟩
theorem pnumber_any (r c:Int) (v:Value) (zs:List Int) (k:Nat) (w:World) (h:IntsK .i16 w v zs) (_hk:k≤1000000):
  Calls Tryz.prog 37 #[.agg #[.int .u8 r,.int .u8 c,v],.int .i64 (k:Int)] w fun e w'=>e= .returned (rv (pnum zs k))∧Below w.heap.size w w':=by
 have HI:=Lib.hid (fun W (hb:Below w.heap.size w W)=>h.below hb);obtain⟨a,cap,rfl,h1,h2,h3,_⟩:=id h;clear h
 by_cases h0:zs.length=0
 ·rw[show pnum zs k=0 from if_pos h0]
  have HZ:=Lib.hid (fun W=>rzero_any W)
  simp only[rv] at HZ
  unfold rv;rw[h0];generalize (0:Rat)=z at*
  go_enter Tryz.func37,Tryz.ntmps37
  have⟨bP,bR,ag⟩:=opn2 w [.int .u8 r,.int .u8 c,.slice a 0 cap] [.bool false,.string ⟨#[]⟩,.string ⟨#[]⟩] 24 33
  go_upto_region 1 with fail
  generalize (w.alloc (.cells #[.int .u8 r,.int .u8 c,.slice a 0 cap] 24)).alloc (.cells #[.bool false,.string ⟨#[]⟩,.string ⟨#[]⟩] 33)=W0 at*;generalize hgR:w.heap.size+1=gR at*;obtain⟨gP,hgP⟩: ∃g,g=w.heap.size:=⟨_,rfl⟩;rw[←hgP] at bP
  simp only[←hgP]
  have ngPgR:gP≠gR:=by omega
  have kgP:w.heap.size≤gP:=by omega
  have kgR:w.heap.size≤gR:=by omega
  clear hgP hgR;have⟨cP0,fP0,cP1,fP1,cP2,fP2⟩:=bP.all3
  go_wp2_with fail
  clear cP0 fP0 cP1 fP1 cP2 fP2
  with_reducible refine(HZ.out _).mono ?_
  rintro e wZ ⟨rfl,am⟩;replace ag:=ag.tr am;replace bP:=bP.below am;replace bR:=bR.below am;clear am;have⟨cgR0,fgR0,cgR1,fgR1,cgR2,fgR2⟩:=bR.all3;replace ag:=((ag.setCell (p:=⟨gR,0,none⟩) kgR (.bool (decide (z.num<0)))).setCell (p:=⟨gR,1,none⟩) kgR (.string (nb z.num.natAbs))).setCell (p:=⟨gR,2,none⟩) kgR (.string (nb z.den));replace bP:=(((bP.other (p:=⟨gR,0,none⟩) (Ne.symm ngPgR) (.bool (decide (z.num<0)))).other (p:=⟨gR,1,none⟩) (Ne.symm ngPgR) (.string (nb z.num.natAbs))).other (p:=⟨gR,2,none⟩) (Ne.symm ngPgR) (.string (nb z.den)))
  replace bR:=bR.put3 (.bool (decide (z.num<0))) (.string (nb z.num.natAbs)) (.string (nb z.den))
  go_wp2_with fail
  clear cgR0 fgR0 cgR1 fgR1 cgR2 fgR2;generalize ((wZ.setCell ⟨gR,0,none⟩ (.bool (decide (z.num<0)))).setCell ⟨gR,1,none⟩ (.string (nb z.num.natAbs))).setCell ⟨gR,2,none⟩ (.string (nb z.den))=WS at*;have⟨cgR0,fgR0,cgR1,fgR1,cgR2,fgR2⟩:=bR.all3
  refine bodyPost_ret (v:=.agg #[.bool (decide (z.num<0)),.string (nb z.num.natAbs),.string (nb z.den)]) (by simp[results,Tryz.results37,go_sem,cgR0,cgR1,cgR2]) rfl ⟨rfl,ag⟩
 ·obtain⟨z,hz⟩: ∃z,z=zs.getD (k %zs.length) 0:=⟨_,rfl⟩
  rw[show pnum zs k=((pN z:Int):Rat)/((pD z:Int):Rat) by rw[hz];exact if_neg h0]
  have hkl:k %zs.length<zs.length:=Nat.mod_lt _ (by omega)
  have hmod:Int.tmod (k:Int) (zs.length:Int)=((k %zs.length:Nat):Int):=by rw[Int.ofNat_tmod]
  have hcell:Hid (∀W,Below w.heap.size w W→∃b off,a=some ⟨b,off,none⟩∧W.cell? ⟨b,off+k %zs.length,none⟩=some (.int .i16 z)):=Lib.hid (fun W hb=>by
   obtain⟨a',cap',e,_,_,_,h4⟩:=HI.out W hb
   obtain⟨rfl, -⟩:a=a'∧cap=cap':=by simpa using e
   obtain⟨b,off,e2,_,hc⟩:=h4 (by omega)
   exact⟨b,off,e2,by rw[hz];exact hc _ hkl⟩)
  have hzw: -32768≤z∧z≤32767:=by
   have:=h3 z (by rw[hz,List.getD_eq_getElem?_getD,List.getElem?_eq_getElem hkl];simp)
   exact bounds_i16 this
  have hN:=Lib.hid (pN_bd z);have hD:=Lib.hid (pD_bd z)
  have HO1:=Lib.hid (fun W=>rof2_any (pN z) W (by have:=hN.out;omega) (by have:=hN.out;omega))
  have HO2:=Lib.hid (fun W=>rof2_any (pD z) W (by have:=hD.out;omega) (by have:=hD.out;omega))
  have hz0:((pD z:Int):Rat)≠0:=fun e=>by
   have e:((pD z:Int):Rat)=((0:Int):Rat):=e;rw[Rat.intCast_inj] at e;have:=hD.out
   omega
  have HQ:=Lib.hid (fun W=>rquo2_any ((pN z:Int):Rat) ((pD z:Int):Rat) W ((Sz_int (by have:=hN.out;omega) (by have:=hN.out;omega)).mono (by decide)) ((Sz_int (by have:=hD.out;omega) (by have:=hD.out;omega)).mono (by decide)) hz0)
  simp only[rv] at HO1 HO2 HQ
  have w1:IntKind.i64.wrap (Int.tmod z 13-3)=pN z:=by rw[IntKind.wrap_i64];have:=hN.out;unfold pN at*;omega
  have w2:IntKind.i64.wrap (Int.tmod (Int.tdiv z 13) 4+4)=Int.tmod (Int.tdiv z 13) 4+4:=by
   have:=Pl.tmod_bd (Int.tdiv z 13) (show(0:Int)<4 by decide)
   rw[IntKind.wrap_i64];omega
  have w3:IntKind.i64.wrap (1+Int.tmod (Int.tmod (Int.tdiv z 13) 4+4) 4)=pD z:=by rw[IntKind.wrap_i64];have:=hD.out;unfold pD at*;omega
  have w0:IntKind.i64.wrap z=z:=by rw[IntKind.wrap_i64];omega
  clear hz0 h1 h2 h3 hz;generalize ((pN z:Int):Rat)/((pD z:Int):Rat)=x at*;generalize ((pN z:Int):Rat)=xn at*;generalize ((pD z:Int):Rat)=xd at*;unfold rv
  go_enter Tryz.func37,Tryz.ntmps37
  have⟨bP,bR,ag⟩:=opn2 w [.int .u8 r,.int .u8 c,.slice a zs.length cap] [.bool false,.string ⟨#[]⟩,.string ⟨#[]⟩] 24 33
  go_upto_region 1 with fail
  generalize (w.alloc (.cells #[.int .u8 r,.int .u8 c,.slice a zs.length cap] 24)).alloc (.cells #[.bool false,.string ⟨#[]⟩,.string ⟨#[]⟩] 33)=W0 at*;generalize hgR:w.heap.size+1=gR at*;obtain⟨gP,hgP⟩: ∃g,g=w.heap.size:=⟨_,rfl⟩;rw[←hgP] at bP
  simp only[←hgP]
  have ngPgR:gP≠gR:=by omega
  have kgP:w.heap.size≤gP:=by omega
  have kgR:w.heap.size≤gR:=by omega
  clear hgP hgR;have⟨cP0,fP0,cP1,fP1,cP2,fP2⟩:=bP.all3
  go_wp2_with fail
  clear cP0 fP0 cP1 fP1 cP2 fP2;obtain⟨b,off,rfl,hcl⟩:=hcell.out _ ag
  have HE:Hid (∀W,Below w.heap.size w W→W.cell? ⟨b,off+k %zs.length,none⟩=some (.int .i16 z)):=Lib.hid (fun W hb=>by
   obtain⟨b',off',e,hc⟩:=hcell.out W hb
   obtain⟨rfl,rfl⟩:b=b'∧off=off':=by simpa using e
   exact hc)
  clear hcl
  have hx0:(0:Int)≤((k %zs.length:Nat):Int):=by omega
  have hx1:((k %zs.length:Nat):Int)<(zs.length:Int):=by omega
  generalize hki:k %zs.length=ki at*;clear hki;replace ag:=ag.drew;replace bP:=bP.drew;replace bR:=bR.drew
  refine wp_schH (S:=(fun w'=>w'.cell? ⟨gP,2,none⟩=some (.slice (some ⟨b,off,none⟩) zs.length cap)∧w'.cell? ⟨b,off+ki,none⟩=some (.int .i16 z))) (ps 0 11 .e) [2,1] fun A WD hA aq=>?_
  simp only[←aq.out] at ag bP bR
  clear aq
  refine⟨?_,fun ap=>?_⟩
  ·try dsimp only
   with_reducible exact⟨bP.at 2 rfl,HE.out _ ag⟩
  repeat(refine isP ?_;refine tkO ?_)
  refine enO hA ?_
  clear hA
  go_wp2_with fail
  with_reducible refine(HO1.out _).mono ?_
  rintro e wZ ⟨rfl,am⟩;replace ag:=ag.tr am;replace bP:=bP.below am;replace bR:=bR.below am;clear am
  go_wp2_with fail
  with_reducible refine(HO2.out _).mono ?_
  rintro e wZ ⟨rfl,am⟩;replace ag:=ag.tr am;replace bP:=bP.below am;replace bR:=bR.below am;clear am
  go_wp2_with fail
  with_reducible refine(HQ.out _).mono ?_
  rintro e wZ ⟨rfl,am⟩;replace ag:=ag.tr am;replace bP:=bP.below am;replace bR:=bR.below am;clear am;have kgX:=ag.size;replace ag:=ag.alloc ag.size (.cells #[.bool (decide (x.num<0)),.string (nb x.num.natAbs),.string (nb x.den)] 33);have dgP:=bP.lt;have dgR:=bR.lt;replace bP:=bP.alloc (.cells #[.bool (decide (x.num<0)),.string (nb x.num.natAbs),.string (nb x.den)] 33)
  replace bR:=bR.alloc (.cells #[.bool (decide (x.num<0)),.string (nb x.num.natAbs),.string (nb x.den)] 33);have bX:Rx (wZ.alloc (.cells #[.bool (decide (x.num<0)),.string (nb x.num.natAbs),.string (nb x.den)] 33)) wZ.heap.size [.bool (decide (x.num<0)),.string (nb x.num.natAbs),.string (nb x.den)]:=Rx.new wZ _ rfl [.bool (decide (x.num<0)),.string (nb x.num.natAbs),.string (nb x.den)] 33
  go_upto_region 5 with fail
  generalize wZ.heap.size=gX at*;generalize wZ.alloc (.cells #[.bool (decide (x.num<0)),.string (nb x.num.natAbs),.string (nb x.den)] 33)=WgX at*
  have ngPgX:gP≠gX:=by omega
  have ngRgX:gR≠gX:=by omega
  clear dgP dgR;have⟨cX0,fX0,cX1,fX1,cX2,fX2⟩:=bX.all3;have⟨cgR0,fgR0,cgR1,fgR1,cgR2,fgR2⟩:=bR.all3;replace ag:=((ag.setCell (p:=⟨gR,0,none⟩) kgR (.bool (decide (x.num<0)))).setCell (p:=⟨gR,1,none⟩) kgR (.string (nb x.num.natAbs))).setCell (p:=⟨gR,2,none⟩) kgR (.string (nb x.den));replace bP:=(((bP.other (p:=⟨gR,0,none⟩) (Ne.symm ngPgR) (.bool (decide (x.num<0)))).other (p:=⟨gR,1,none⟩) (Ne.symm ngPgR) (.string (nb x.num.natAbs))).other (p:=⟨gR,2,none⟩) (Ne.symm ngPgR) (.string (nb x.den)))
  replace bX:=(((bX.other (p:=⟨gR,0,none⟩) ngRgX (.bool (decide (x.num<0)))).other (p:=⟨gR,1,none⟩) ngRgX (.string (nb x.num.natAbs))).other (p:=⟨gR,2,none⟩) ngRgX (.string (nb x.den)));replace bR:=bR.put3 (.bool (decide (x.num<0))) (.string (nb x.num.natAbs)) (.string (nb x.den))
  go_wp2_with fail
  clear cX0 fX0 cX1 fX1 cX2 fX2 cgR0 fgR0 cgR1 fgR1 cgR2 fgR2;generalize ((WgX.setCell ⟨gR,0,none⟩ (.bool (decide (x.num<0)))).setCell ⟨gR,1,none⟩ (.string (nb x.num.natAbs))).setCell ⟨gR,2,none⟩ (.string (nb x.den))=WS at*;have⟨cgR0,fgR0,cgR1,fgR1,cgR2,fgR2⟩:=bR.all3
  refine bodyPost_ret (v:=.agg #[.bool (decide (x.num<0)),.string (nb x.num.natAbs),.string (nb x.den)]) (by simp[results,Tryz.results37,go_sem,cgR0,cgR1,cgR2]) rfl ⟨rfl,ag⟩
def plA(zs:List Int)(n i j:Nat):Rat:=pnum zs (i*(n+1)+j)
def plB(zs:List Int)(n i:Nat):Rat:=pnum zs (i*(n+1)+n)+2
def plC(zs:List Int)(m n j:Nat):Rat:=pnum zs (m*(n+1)+j)
theorem raws_succ(k:Nat)(F:Nat→Rat):raws (k+1) F=raws k F++ [⟨decide ((F k).num<0),nb (F k).num.natAbs,nb (F k).den⟩]:=by simp[raws,List.range_succ,rawq]
theorem pnum_sz (zs:List Int) (k:Nat):Sz (pnum zs k) 16:=by
 unfold pnum
 split
 ·exact Sz_zero.mono (by decide)
 ·have h1:=pN_bd (zs.getD (k %zs.length) 0)
  have h2:=pD_bd (zs.getD (k %zs.length) 0)
  refine Sz_div (Sz_int (by omega) (by omega)) (Sz_int (by omega) (by omega)) (fun e=>?_)
  have e:((pD (zs.getD (k %zs.length) 0):Int):Rat)=((0:Int):Rat):=e;rw[Rat.intCast_inj] at e
  omega
theorem make_any (r c:Int) (hr:0≤r∧r≤255) (hc:0≤c∧c≤255) (v:Value) (zs:List Int) (w:World) (h:IntsK .i16 w v zs) (m n:Nat) (hm:(m:Int)=r %7) (hn:(n:Int)=c %7):
  Calls Tryz.prog 13 #[.agg #[.int .u8 r,.int .u8 c,v]] w fun e w'=> ∃g a0 c0 a1 c1 a2 c2 rv_ lab,e= .returned (.agg #[.slice a0 m c0,.slice a1 m c1,.slice a2 n c2])∧LO w g [.slice a0 m c0,.slice a1 m c1,.slice a2 n c2] (.slice a0 m c0) m rv_ (fun i=>raws n (plA zs n i)) (.slice a1 m c1) (raws m (plB zs n)) (.slice a2 n c2) (raws n (plC zs m n)) (.slice none 0 0) [] lab w':=by
 have hm7:m≤6:=by omega
 have hn7:n≤6:=by omega
 obtain⟨av,cv,rfl,_⟩:=id h;have HN:=Lib.hid (fun W (hb:Below w.heap.size w W) k (hk:k≤1000000)=>pnumber_any r c (.slice av zs.length cv) zs k W (h.below hb) hk);obtain⟨u,hu⟩: ∃u:Rat,u=2:=⟨_,rfl⟩
 have HO:Hid (∀W,Calls Tryz.prog 18 #[.int .i64 2] W fun e w'=>e= .returned (rv u)∧Below W.heap.size W w'):=Lib.hid (fun W=>by rw[hu];exact rof2_any 2 W (by decide) (by decide))
 have HAd:Hid (∀W k,Calls Tryz.prog 38 #[rv (pnum zs k),rv u] W fun e w'=>e= .returned (rv (pnum zs k+2))∧Below W.heap.size W w'):=Lib.hid (fun W k=>by rw[hu];exact radd2_any (pnum zs k) 2 W ((pnum_sz zs k).mono (by decide)) ((show Sz 2 8 from Sz_int (n:=2) (by decide) (by decide)).mono (by decide)))
 have hx1:IntKind.u8.wrap (Int.tmod r 7)=(m:Int):=by rw[Int.tmod_eq_emod_of_nonneg hr.1,←hm];simp[IntKind.wrap,IntKind.signed,IntKind.bits];omega
 have hx2:IntKind.u8.wrap (Int.tmod c 7)=(n:Int):=by rw[Int.tmod_eq_emod_of_nonneg hc.1,←hn];simp[IntKind.wrap,IntKind.signed,IntKind.bits];omega
 have hy1:Int.tmod r 7=(m:Int):=by rw[Int.tmod_eq_emod_of_nonneg hr.1,←hm]
 have hy2:Int.tmod c 7=(n:Int):=by rw[Int.tmod_eq_emod_of_nonneg hc.1,←hn]
 clear h hu hm hn hr hc
 go_enter Tryz.func13,Tryz.ntmps13
 have⟨bP,bR,ag⟩:=opn2 w [.int .u8 r,.int .u8 c,.slice av zs.length cv] [.slice none 0 0,.slice none 0 0,.slice none 0 0] 24 29
 go_upto_region 1 with fail
 generalize (w.alloc (.cells #[.int .u8 r,.int .u8 c,.slice av zs.length cv] 24)).alloc (.cells #[.slice none 0 0,.slice none 0 0,.slice none 0 0] 29)=W0 at*;generalize hgR:w.heap.size+1=gR at*;obtain⟨gP,hgP⟩: ∃g,g=w.heap.size:=⟨_,rfl⟩;rw[←hgP] at bP
 simp only[←hgP]
 have ngPgR:gP≠gR:=by omega
 have kgP:w.heap.size≤gP:=by omega
 have kgR:w.heap.size≤gR:=by omega
 clear hgP hgR;have⟨cP0,fP0,cP1,fP1,cP2,fP2⟩:=bP.all3
 go_upto_region 3 with fail
 clear cP0 fP0 cP1 fP1 cP2 fP2;have hbl:Below W0.heap.size W0 (W0.alloc (.cells #[.slice none 0 0,.slice none 0 0,.slice none 0 0] 29)):=(Below.refl _ _).alloc (Nat.le_refl _) _;have bO:Rx (W0.alloc (.cells #[.slice none 0 0,.slice none 0 0,.slice none 0 0] 29)) W0.heap.size [.slice none 0 0,.slice none 0 0,.slice none 0 0]:=Rx.new W0 _ rfl [.slice none 0 0,.slice none 0 0,.slice none 0 0] 29
 go_wp2_with fail
 have hL:LO W0 W0.heap.size [.slice none 0 0,.slice none 0 0,.slice none 0 0] (.slice none 0 0) (0) (fun _=>.slice none 0 0) (fun _=> []) (.slice none 0 0) ([]) (.slice none 0 0) ([]) (.slice none 0 0) ([]) (fun k=>if k=W0.heap.size then 1 else 0) (W0.alloc (.cells #[.slice none 0 0,.slice none 0 0,.slice none 0 0] 29)):=LO.init (Nat.le_refl _) hbl bO;clear hbl bO;generalize W0.alloc (.cells #[.slice none 0 0,.slice none 0 0,.slice none 0 0] 29)=W1 at*
 have HP:Hid (∀W,Below W0.heap.size W0 W→W.cell? ⟨gP,0,none⟩=some (.int .u8 r)∧W.cell? ⟨gP,1,none⟩=some (.int .u8 c)∧W.cell? ⟨gP,2,none⟩=some (.slice av zs.length cv)):=Lib.hid (fun W hb=>by
  have:=bP.off (off_of (M:=NoB) hb) (fun e=>e)
  exact qz3 this)
 have HB0:Hid (∀W,Below W0.heap.size W0 W→Below w.heap.size w W):=Lib.hid (fun W hb=>ag.tr hb);obtain⟨gO,hgO⟩: ∃g,g=W0.heap.size:=⟨_,rfl⟩;rw[←hgO] at hL
 simp only[←hgO]
 clear hgO
 go_loopw [6,7] (fun s6 s7 wr=> ∃i k:Nat,i≤m∧k=i*(n+1)∧s6= .int .i64 (k:Int)∧s7= .int .i64 (i:Int)∧∃vA rv_ vB lab,LO W0 gO [vA,vB,.slice none 0 0] vA (i) rv_ (fun x=>raws n (plA zs n x)) vB (raws i (plB zs n)) (.slice none 0 0) ([]) (.slice none 0 0) ([]) lab wr) (fun _ s7 _=>m-(intOf s7).toNat)
 case atStart=>exact⟨0,0,by omega,by simp,rfl,rfl,_,_,_,_,hL.setRows (rv':=fun _=>.slice none 0 0) (fun x hx=>by omega) (fun x hx=>by omega)⟩
 case round=>
  clear hL;obtain⟨i,k0,hi,hk0,rfl,rfl,vA,rv_,vB,lab,hL⟩:=hrel
  by_cases hlt:i<m
  ·have hi0:(0:Int)≤(i:Int):=by omega
   have hi1:(i:Int)<(m:Int):=by omega
   have HK0:=Lib.hid hk0;clear hk0
   go_wp2_with fail
   go_loopw [6,8,9] (fun s6 s8 s9 wr=> ∃(j k:Nat) (vr:Value),j≤n∧k=k0+j∧s6= .int .i64 (k:Int)∧s8=vr∧s9= .int .i64 (j:Int)∧∃lab,LO W0 gO [vA,vB,.slice none 0 0] vA (i) rv_ (fun x=>raws n (plA zs n x)) vB (raws i (plB zs n)) (.slice none 0 0) ([]) vr (raws j (plA zs n i)) lab wr) (fun _ _ s9 _=>n-(intOf s9).toNat)
   case atStart=>exact⟨0,k0,_,by omega,rfl,rfl,rfl,rfl,_,hL⟩
   case round=>
    clear hL;obtain⟨j,k,vr,hj,hk,rfl,rfl,rfl,lab,hL⟩:=hrel
    have hkk:=Nat.mul_le_mul hi (show n+1≤7 by omega)
    have hkb:k≤1000:=by have:=HK0.out;omega
    have hkc:(k:Int)≤1000:=by omega
    clear hkk
    by_cases hltj:j<n
    ·have hj0:(0:Int)≤(j:Int):=by omega
     have hj1:(j:Int)<(n:Int):=by omega
     have hpk:pnum zs k=plA zs n i j:=by rw[hk,HK0.out];rfl
     have HNk:=Lib.hid (fun W (hb:Below W0.heap.size W0 W)=>HN.out W (HB0.out W hb) k (by omega))
     rw[hpk] at HNk;have HX:=Lib.hid (raws_succ j (plA zs n i));generalize plA zs n i j=x at*
     simp only[rv] at HNk
     have HKj:=Lib.hid hk;clear hpk hk;obtain⟨p0,p1,p2⟩:=HP.out _ hL.old
     go_wp2_with fail
     clear p0 p1 p2
     with_reducible refine(HNk.out _ hL.old).mono ?_
     rintro e wX ⟨rfl,am⟩;replace hL:=hL.below am;clear am HNk
     have hS:=Rats.lit (B:=0) wX (Nat.zero_le _) [⟨decide (x.num<0),nb x.num.natAbs,nb x.den⟩] (by simp)
     have hLa:=hL.alloc (.cells #[.bool (decide (x.num<0)),.string (nb x.num.natAbs),.string (nb x.den)] 33)
     have hlen:(raws j (plA zs n i)).length+ [(⟨decide (x.num<0),nb x.num.natAbs,nb x.den⟩:Raw)].length<1000000000:=by rw[raws_len];simp;omega
     go_wp2_with (at_builtin;refine app_rats (by rfl) (by rfl) (by rfl) (by rfl) W0.heap.size hLa.cur hS hlen hLa.old.size ?_;intro v2 w2 e1 e2 e3)
     rw[←HX.out] at e1;have hL2:=hLa.appR e2 e1 e3;clear hS hLa hL e1 e2 e3
     go_roundw
     case rel=>exact⟨j+1,k+1,_,by omega,by have:=HKj.out;omega,by go_num,rfl,by go_num,_,hL2⟩
     case measure=>simp[intOf];omega
    ·obtain rfl:j=n:=by omega
     have HKj:=Lib.hid hk;clear hk;obtain⟨av8,cv8,e8⟩:=hL.cur.form;rw[raws_len] at e8;subst e8;have hA0:=hL.fix.at 0 rfl;have hLa:=hL.alloc (.cells #[.slice av8 j cv8] 27)
     have hS:Vals 27 (wr.alloc (.cells #[.slice av8 j cv8] 27)) 0 (.slice (some ⟨wr.heap.size,0,none⟩) 1 1) [.slice av8 j cv8]:=Vals.lit wr (Nat.zero_le _) _ [.slice av8 j cv8] (by simp)
     have hlen:((List.range i).map rv_).length+ [Value.slice av8 j cv8].length<1000000000:=by simp;omega
     have hone: ∀u∈ [Value.slice av8 j cv8],u.oneCell'=true:=fun u hu=>by simp at hu;subst hu;rfl
     go_wp2_with (at_builtin;refine app_vals Tryz.underlying26 info_rats rfl (by decide) (by rfl) (by rfl) (by rfl) (by rfl) W0.heap.size hLa.A hS hone hlen hLa.old.size ?_;intro vA2 w2 e1 e2 e3;clear hA0;obtain⟨aA,cA,rfl⟩: ∃a c,vA2= .slice a (i+1) c:=(by obtain⟨a,c,e,_⟩:=e1.form;simp only[List.length_append,List.length_map,List.length_range,List.length_cons,List.length_nil,Nat.zero_add] at e;exact⟨a,c,e⟩);obtain⟨lab2,hL2⟩:=hLa.pushA e2 e1 e3;have hA0:=hL2.fix.at 0 rfl;have hA1:=hL2.fix.fr 0 rfl)
     clear hA0 hA1 hS hone hlen hLa hL e1 e2 e3
     have hL:=hL2.cell 0 (.slice aA (i+1) cA) (by simp)
     simp only[List.set] at hL
     clear hL2;generalize w2.setCell ⟨gO,0,none⟩ (.slice aA (i+1) cA)=W3 at*
     have hpk:pnum zs k+2=plB zs j i:=by rw[HKj.out,HK0.out];rfl
     have HNk:=Lib.hid (fun W (hb:Below W0.heap.size W0 W)=>HN.out W (HB0.out W hb) k (by omega))
     have HAk:=Lib.hid (fun W=>HAd.out W k);rw[hpk] at HAk;have HX:=Lib.hid (raws_succ i (plB zs j));clear hpk;generalize plB zs j i=y at*;generalize pnum zs k=x at*
     simp only[rv] at HNk HAk HO
     have ag:=Below.refl W3.heap.size W3;replace ag:=ag.drew;replace hL:=hL.drew
     refine wp_schH (S:=(fun w'=>w'.cell? ⟨gP,0,none⟩=some (.int .u8 r)∧w'.cell? ⟨gP,1,none⟩=some (.int .u8 c)∧w'.cell? ⟨gP,2,none⟩=some (.slice av zs.length cv))) (.p 0 (.p 2 (.p 3 (.b (.c 1 (.c 4 (.c 5 (.c 6 (.c 7 (.c 8 (.p 9 (.c 10 .e)))))))) (.c 4 (.b (.c 1 (.c 5 (.c 6 (.c 7 (.c 8 (.p 9 (.c 10 .e))))))) (.c 5 (.b (.c 1 (.c 6 (.c 7 (.c 8 (.p 9 (.c 10 .e)))))) (.c 6 (.b (.c 1 (.c 7 (.c 8 (.p 9 (.c 10 .e))))) (.c 7 (.c 1 (.c 8 (.p 9 (.c 10 .e))))))))))))))) [5,1,6] fun A WD hA aq=>?_
     simp only[←aq.out] at ag hL
     clear aq
     refine⟨?_,fun ap=>?_⟩
     ·try dsimp only
      with_reducible exact⟨(HP.out _ hL.old).1,(HP.out _ hL.old).2.1,(HP.out _ hL.old).2.2⟩
     repeat' first
      |((with_reducible refine isP ?_);refine tkO ?_)
      |(with_reducible refine brA ?_ ?_)
      | (
       with_reducible refine isA (i:=1) ?_
       refine acO fun aa KK hF hK=>?_
       dsimp only[Fa] at hF
       have cc:=hL.fix.at 1 rfl
       go_simp
       clear cc
       (first|refine hK.out _ _ ?_ (fun ap=>?_)|(go_wp2_with fail;refine hK.out _ _ ?_ (fun ap=>?_)))
       ·try dsimp only
        with_reducible exact⟨(HP.out _ hL.old).1,(HP.out _ hL.old).2.1,(HP.out _ hL.old).2.2⟩
       clear hK KK hF aa)
      | (
       with_reducible refine isA (i:=4) ?_
       refine caO (HNk.out _ hL.old) fun e wX hz=>?_
       obtain⟨rfl,am⟩:=hz;replace hL:=hL.below am;clear am
       refine⟨_,rfl,?_,?_⟩
       ·try dsimp only
        with_reducible exact⟨(HP.out _ hL.old).1,(HP.out _ hL.old).2.1,(HP.out _ hL.old).2.2⟩)
      | (
       with_reducible refine isA (i:=5) ?_
       refine caO (HO.out _) fun e wX hz=>?_
       obtain⟨rfl,am⟩:=hz;replace hL:=hL.below am;clear am
       refine⟨_,rfl,?_,?_⟩
       ·try dsimp only
        with_reducible exact⟨(HP.out _ hL.old).1,(HP.out _ hL.old).2.1,(HP.out _ hL.old).2.2⟩)
      | (
       with_reducible refine isA (i:=6) ?_
       refine caO (HAk.out _) fun e wX hz=>?_
       obtain⟨rfl,am⟩:=hz;replace hL:=hL.below am;clear am
       refine⟨_,rfl,?_,?_⟩
       ·try dsimp only
        with_reducible exact⟨(HP.out _ hL.old).1,(HP.out _ hL.old).2.1,(HP.out _ hL.old).2.2⟩)
      | (
       with_reducible refine isA (i:=7) ?_
       refine acO fun aa KK hF hK=>?_
       dsimp only[Fa] at hF
       have hS:=Rats.lit (B:=0) wX (Nat.zero_le _) [⟨decide (y.num<0),nb y.num.natAbs,nb y.den⟩] (by simp)
       replace hL:=hL.alloc (.cells #[.bool (decide (y.num<0)),.string (nb y.num.natAbs),.string (nb y.den)] 33)
       go_simp
       have hS:Rats (wX.alloc (.cells #[.bool (decide (y.num<0)),.string (nb y.num.natAbs),.string (nb y.den)] 33)) 0 (.slice (some ⟨wX.heap.size,0,none⟩) 1 1) [⟨decide (y.num<0),nb y.num.natAbs,nb y.den⟩]:=hS;generalize wX.heap.size=gL at*;generalize wX.alloc (.cells #[.bool (decide (y.num<0)),.string (nb y.num.natAbs),.string (nb y.den)] 33)=WA at*
       (first|refine hK.out _ _ ?_ (fun ap=>?_)|(go_wp2_with fail;refine hK.out _ _ ?_ (fun ap=>?_)))
       ·try dsimp only
        with_reducible exact⟨(HP.out _ hL.old).1,(HP.out _ hL.old).2.1,(HP.out _ hL.old).2.2⟩
       clear hK KK hF aa)
      | (
       with_reducible refine isA (i:=8) ?_
       refine acO fun aa KK hF hK=>?_
       dsimp only[Fa] at hF
       refine ifw (by rfl) (step_rats (ops:= #[]) (E:=True) (by rfl) (by rfl) (by apply evF;first|exact hF.1|exact hF.2.1|exact hF.2.2.1) (by apply evF;first|exact hF.1|exact hF.2.1|exact hF.2.2.1) W0.heap.size hL.B hS (by rw[raws_len];simp;omega) hL.old.size ?_)
       intro v2 w4 e1 e2 e3
       rw[←HX.out] at e1;obtain⟨aN,cN,eN⟩:=e1.form;rw[raws_len] at eN;subst eN;replace hL:=hL.appB e2 e1 e3;clear hS e1 e2 e3
       (first|refine hK.out _ _ ?_ (fun ap=>?_)|(go_wp2_with fail;refine hK.out _ _ ?_ (fun ap=>?_)))
       ·try dsimp only
        with_reducible exact⟨(HP.out _ hL.old).1,(HP.out _ hL.old).2.1,(HP.out _ hL.old).2.2⟩
       clear hK KK hF aa)
      | (
       with_reducible refine isA (i:=10) ?_
       refine acO fun aa KK hF hK=>?_
       dsimp only[Fa] at hF
       have cc:=hL.fix.at 1 rfl;have ff:=hL.fix.fr 1 rfl
       go_simp
       clear cc ff
       replace hL:=hL.cell 1 (.slice aN (i+1) cN) (by simp)
       simp only[List.set] at hL
       generalize w4.setCell ⟨gO,1,none⟩ (.slice aN (i+1) cN)=WS at*
       (first|refine hK.out undef _ ?_ (fun ap=>?_)|(go_wp2_with fail;refine hK.out undef _ ?_ (fun ap=>?_)))
       ·try dsimp only
        with_reducible exact⟨(HP.out _ hL.old).1,(HP.out _ hL.old).2.1,(HP.out _ hL.old).2.2⟩
       clear hK KK hF aa)
     all_goals(
      refine enO hA ?_
      clear hA;clear ag
      go_wp2_with fail
      go_roundw
      case rel=>exact⟨i+1,k+1,by omega,by have h1:=HKj.out;have h2:=HK0.out;rw[h1,h2,Nat.succ_mul];omega,by go_num,by go_num,_,_,_,_,hL.setRows (fun _ _=>rfl) (fun x hx=>by
       by_cases e:x=i
       ·subst e;rw[upd_same]
       ·rw[upd_ne e])⟩
      case measure=>simp[intOf];omega)
  ·obtain rfl:i=m:=by omega
   have HK0:=Lib.hid hk0;clear hk0
   go_wp2_with fail
   go_loopw [6,10] (fun s6 s10 wr=> ∃(j k:Nat),j≤n∧k=k0+j∧s6= .int .i64 (k:Int)∧s10= .int .i64 (j:Int)∧∃vC lab,LO W0 gO [vA,vB,vC] vA (i) rv_ (fun x=>raws n (plA zs n x)) vB (raws i (plB zs n)) vC (raws j (plC zs i n)) (.slice none 0 0) ([]) lab wr) (fun _ s10 _=>n-(intOf s10).toNat)
   case atStart=>exact⟨0,k0,by omega,rfl,rfl,rfl,_,_,hL⟩
   case round=>
    clear hL;obtain⟨j,k,hj,hk,rfl,rfl,vC,lab,hL⟩:=hrel
    have hkk:=Nat.mul_le_mul hi (show n+1≤7 by omega)
    have hkb:k≤1000:=by have:=HK0.out;omega
    have hkc:(k:Int)≤1000:=by omega
    have HKj:=Lib.hid hk;clear hkk hk
    by_cases hltj:j<n
    ·have hj0:(0:Int)≤(j:Int):=by omega
     have hj1:(j:Int)<(n:Int):=by omega
     have hpk:pnum zs k=plC zs i n j:=by rw[HKj.out,HK0.out];rfl
     have HNk:=Lib.hid (fun W (hb:Below W0.heap.size W0 W)=>HN.out W (HB0.out W hb) k (by omega))
     rw[hpk] at HNk;have HX:=Lib.hid (raws_succ j (plC zs i n));clear hpk;generalize plC zs i n j=y at*
     simp only[rv] at HNk
     have ag:=Below.refl wr.heap.size wr
     go_upto_region 20 with fail
     replace ag:=ag.drew;replace hL:=hL.drew
     refine wp_schH (S:=(fun w'=>w'.cell? ⟨gP,0,none⟩=some (.int .u8 r)∧w'.cell? ⟨gP,1,none⟩=some (.int .u8 c)∧w'.cell? ⟨gP,2,none⟩=some (.slice av zs.length cv))) (.p 0 (.p 2 (.p 3 (.b (.c 1 (.c 4 (.c 5 (.c 6 (.p 7 (.c 8 .e)))))) (.c 4 (.b (.c 1 (.c 5 (.c 6 (.p 7 (.c 8 .e))))) (.c 5 (.c 1 (.c 6 (.p 7 (.c 8 .e))))))))))) [5,1,6] fun A WD hA aq=>?_
     simp only[←aq.out] at ag hL
     clear aq
     refine⟨?_,fun ap=>?_⟩
     ·try dsimp only
      with_reducible exact⟨(HP.out _ hL.old).1,(HP.out _ hL.old).2.1,(HP.out _ hL.old).2.2⟩
     repeat' first
      |((with_reducible refine isP ?_);refine tkO ?_)
      |(with_reducible refine brA ?_ ?_)
      | (
       with_reducible refine isA (i:=1) ?_
       refine acO fun aa KK hF hK=>?_
       dsimp only[Fa] at hF
       have cc:=hL.fix.at 2 rfl
       go_simp
       clear cc
       (first|refine hK.out _ _ ?_ (fun ap=>?_)|(go_wp2_with fail;refine hK.out _ _ ?_ (fun ap=>?_)))
       ·try dsimp only
        with_reducible exact⟨(HP.out _ hL.old).1,(HP.out _ hL.old).2.1,(HP.out _ hL.old).2.2⟩
       clear hK KK hF aa)
      | (
       with_reducible refine isA (i:=4) ?_
       refine caO (HNk.out _ hL.old) fun e wX hz=>?_
       obtain⟨rfl,am⟩:=hz;replace hL:=hL.below am;clear am
       refine⟨_,rfl,?_,?_⟩
       ·try dsimp only
        with_reducible exact⟨(HP.out _ hL.old).1,(HP.out _ hL.old).2.1,(HP.out _ hL.old).2.2⟩)
      | (
       with_reducible refine isA (i:=5) ?_
       refine acO fun aa KK hF hK=>?_
       dsimp only[Fa] at hF
       have hS:=Rats.lit (B:=0) wX (Nat.zero_le _) [⟨decide (y.num<0),nb y.num.natAbs,nb y.den⟩] (by simp)
       replace hL:=hL.alloc (.cells #[.bool (decide (y.num<0)),.string (nb y.num.natAbs),.string (nb y.den)] 33)
       go_simp
       have hS:Rats (wX.alloc (.cells #[.bool (decide (y.num<0)),.string (nb y.num.natAbs),.string (nb y.den)] 33)) 0 (.slice (some ⟨wX.heap.size,0,none⟩) 1 1) [⟨decide (y.num<0),nb y.num.natAbs,nb y.den⟩]:=hS;generalize wX.heap.size=gL at*;generalize wX.alloc (.cells #[.bool (decide (y.num<0)),.string (nb y.num.natAbs),.string (nb y.den)] 33)=WA at*
       (first|refine hK.out _ _ ?_ (fun ap=>?_)|(go_wp2_with fail;refine hK.out _ _ ?_ (fun ap=>?_)))
       ·try dsimp only
        with_reducible exact⟨(HP.out _ hL.old).1,(HP.out _ hL.old).2.1,(HP.out _ hL.old).2.2⟩
       clear hK KK hF aa)
      | (
       with_reducible refine isA (i:=6) ?_
       refine acO fun aa KK hF hK=>?_
       dsimp only[Fa] at hF
       refine ifw (by rfl) (step_rats (ops:= #[]) (E:=True) (by rfl) (by rfl) (by apply evF;first|exact hF.1|exact hF.2.1|exact hF.2.2.1) (by apply evF;first|exact hF.1|exact hF.2.1|exact hF.2.2.1) W0.heap.size hL.C hS (by rw[raws_len];simp;omega) hL.old.size ?_)
       intro v2 w4 e1 e2 e3
       rw[←HX.out] at e1;obtain⟨aN,cN,eN⟩:=e1.form;rw[raws_len] at eN;subst eN;replace hL:=hL.appC e2 e1 e3;clear hS e1 e2 e3
       (first|refine hK.out _ _ ?_ (fun ap=>?_)|(go_wp2_with fail;refine hK.out _ _ ?_ (fun ap=>?_)))
       ·try dsimp only
        with_reducible exact⟨(HP.out _ hL.old).1,(HP.out _ hL.old).2.1,(HP.out _ hL.old).2.2⟩
       clear hK KK hF aa)
      | (
       with_reducible refine isA (i:=8) ?_
       refine acO fun aa KK hF hK=>?_
       dsimp only[Fa] at hF
       have cc:=hL.fix.at 2 rfl;have ff:=hL.fix.fr 2 rfl
       go_simp
       clear cc ff
       replace hL:=hL.cell 2 (.slice aN (j+1) cN) (by simp)
       simp only[List.set] at hL
       generalize w4.setCell ⟨gO,2,none⟩ (.slice aN (j+1) cN)=WS at*
       (first|refine hK.out undef _ ?_ (fun ap=>?_)|(go_wp2_with fail;refine hK.out undef _ ?_ (fun ap=>?_)))
       ·try dsimp only
        with_reducible exact⟨(HP.out _ hL.old).1,(HP.out _ hL.old).2.1,(HP.out _ hL.old).2.2⟩
       clear hK KK hF aa)
     all_goals(
      refine enO hA ?_
      clear hA;clear ag
      go_wp2_with fail
      go_roundw
      case rel=>exact⟨j+1,k+1,by omega,by have:=HKj.out;omega,by go_num,by go_num,_,_,hL⟩
      case measure=>simp[intOf];omega)
    ·obtain rfl:j=n:=by omega
     obtain⟨aA,cA,eA,_⟩:=hL.A.form;obtain⟨aB,cB,eB⟩:=hL.B.form;obtain⟨aC,cC,eC⟩:=hL.C.form
     simp only[List.length_map,List.length_range] at eA
     rw[raws_len] at eB eC;subst eA eB eC;have x0:=hL.fix.at 0 rfl;have x1:=hL.fix.at 1 rfl;have x2:=hL.fix.at 2 rfl;have hsR:gR<W0.heap.size:=bR.lt;have bR2:=bR.off (off_of (M:=NoB) hL.old) (fun e=>e);have y0:=bR2.at 0 rfl;have y1:=bR2.at 1 rfl;have y2:=bR2.at 2 rfl;have f0:=bR2.fr 0 rfl;have f1:=bR2.fr 1 rfl;have f2:=bR2.fr 2 rfl;have h0:=hL.lab0 hsR
     have hLw:=hL.base ag
     go_wp2_with fail
     have bR3:=bR2.put3 (.slice aA i cA) (.slice aB i cB) (.slice aC j cC);have z0:=bR3.at 0 rfl;have z1:=bR3.at 1 rfl;have z2:=bR3.at 2 rfl
     refine bodyPost_ret (v:=.agg #[.slice aA i cA,.slice aB i cB,.slice aC j cC]) (by simp[results,Tryz.results13,go_sem,z0,z1,z2]) rfl ?_
     refine⟨gO,aA,cA,aB,cB,aC,cC,rv_,lab,rfl,hLw.off (M:=fun k=>k=gR) ((((Off.refl (fun k=>k=gR) wr).set (p:=⟨gR,0,none⟩) rfl _).set (p:=⟨gR,1,none⟩) rfl _).set (p:=⟨gR,2,none⟩) rfl _) (fun k hk e=>hk (by rw[e];exact h0)) (fun k hk e=>by omega)⟩
end Go.Proofs.YtinmmkcjjlconaaGreat
