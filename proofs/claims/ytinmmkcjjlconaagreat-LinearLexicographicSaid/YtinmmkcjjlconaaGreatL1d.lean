/- Parts of the proofs about this seat's statements. -/
import Derived.Test.YtinmmkcjjlconaaGreatL1c
set_option maxRecDepth 100000
set_option maxHeartbeats 16000000
namespace Go.Proofs.YtinmmkcjjlconaaGreat
open Go.RowKit W
open Pl (cmpN cmpN_lt cmpN_gt cmpN_eq)
theorem cast_le{t p K:Nat}(h:(t+1)*p≤K):((t:Int)+1)*p≤K:=by exact_mod_cast h
theorem cast_ge{t p K:Nat}(h:K≤t*p):(K:Int)≤(t:Int)*p:=by exact_mod_cast h
theorem win_split (ul:List Int) (j n:Nat) (_:j+n+1≤ul.length):ul=ul.take j++(win ul j n++ul.drop (j+n+1)):=by
 unfold win;rw[←List.append_assoc]
 have e:ul.take j=(ul.take (j+n+1)).take j:=by rw[List.take_take,Nat.min_eq_left (by omega)]
 rw[e,List.take_append_drop,List.take_append_drop]
theorem win_get (ul:List Int) (j n k:Nat) (_h:j+n+1≤ul.length) (hk:k<n+1):(win ul j n)[k]'(by simp[win];omega)=ul[j+k]'(by omega):=by
 simp[win]
def RetDiv(X Y:Nat)(e:Ending)(w:World):Prop:= ∃q r,e= .returned (.tuple #[q,r])∧U32s w 0 q (digs (X/Y))∧U32s w 0 r (digs (X %Y))
theorem ndivide_less (X Y:Nat) (vx vy:Value) (w:World) (hx:U32s w 0 vx (digs X)) (hy:U32s w 0 vy (digs Y)) (hlt:X<Y):
  Calls Tryz.prog 132 #[vx,vy] w fun e w'=>RetDiv X Y e w'∧Below w.heap.size w w':=by
 have hc:=cmpN_lt hlt
 go_enter Tryz.func132,Tryz.ntmps132
 go_wp2_with fail
 refine(ncompare_any X Y vx vy 0 _ hx hy).mono ?_
 rw[hc];rintro e w1 ⟨rfl,hb⟩;have HX:=Lib.hid (hx.below hb);clear hx hy
 go_wp2_with fail
 go_ret2
 exact⟨⟨_,_,rfl,by rw[Nat.div_eq_of_lt hlt,digs_zero];exact U32s.nil _ _,by rw[Nat.mod_eq_of_lt hlt];exact HX.out⟩,hb⟩
theorem ndivide_one (X Y:Nat) (vx vy:Value) (w:World) (hx:U32s w 0 vx (digs X)) (hy:U32s w 0 vy (digs Y)) (hle:Y≤X) (h0:0<Y) (h1:Y<4294967296) (hlen:(digs X).length≤1073741824):
  Calls Tryz.prog 132 #[vx,vy] w fun e w'=>RetDiv X Y e w'∧Below w.heap.size w w':=by
 have hc:0≤cmpN X Y:=by unfold cmpN;split<;>first|omega|(split<;>omega)
 have ey:digs Y= [(Y:Int)]:=by rw[digs_pos (by omega),Nat.div_eq_of_lt h1,digs_zero,Nat.mod_eq_of_lt h1]
 obtain⟨a',cap',rfl,hc',hm',hcell'⟩:=hy.open
 have hyl:(digs Y).length=1:=by rw[ey];rfl
 obtain⟨g',_,hg',rfl,hcy⟩:=hcell' 0 (by omega)
 have hcy':w.cell? ⟨g',0,none⟩=some (.int .u32 Y):=by rw[hcy];simp[ey]
 clear hcell' hcy;have HY:=Lib.hid ey;have HYL:=Lib.hid hyl;clear ey hyl
 go_enter Tryz.func132,Tryz.ntmps132
 go_wp2_with fail
 refine(ncompare_any X Y vx _ 0 _ hx hy).mono ?_
 generalize cmpN X Y=c at hc;rintro e w1 ⟨rfl,hb⟩;have hx1:=hx.below hb
 have hcy1:w1.cell? ⟨g',0,none⟩=some (.int .u32 Y):=by rw[hb.cell (p:=⟨g',0,none⟩) hg'];exact hcy'
 clear hcy';have hyl:=HYL.out;have hE:=dv_digs X
 go_wp2_with fail
 refine(nshort_any (digs X) vx Y 0 _ (digs_dig X) hx1 h0 h1 hlen).mono ?_
 rw[hE,Int.toNat_natCast];rintro e w2 ⟨⟨q,rfl,hq⟩,hb2⟩;have hmlt:=Nat.mod_lt X h0;have hq':=(hq.low (Nat.zero_le _)).alloc (.cells #[.int .u32 ((X %Y:Nat):Int)] 138);have hl1:=U32s.lit1 w2 0 ((X %Y:Nat):Int) (Nat.zero_le _)
 have hd1:Dig [((X %Y:Nat):Int)]:=Dig.cons (by omega) (by omega) Dig.nil
 have hd2:digs (dv [((X %Y:Nat):Int)]).toNat=digs (X %Y):=by congr 1
 have HD:=Lib.hid hd2;clear hd2 hx hx1 hy hE hcy1
 go_wp2_with (go_at_call 134;refine(utrim_any _ _ _ _ hd1 hl1).mono ?_;rintro e w' ⟨⟨v2,rfl,hv2⟩,rfl⟩)
 go_ret2
 exact⟨⟨q,v2,rfl,hq',hv2.of_eq HD.out⟩,(hb.tr hb2).alloc (by have:=hb.size;have:=hb2.size;omega) _⟩
theorem U32s.extend{w:World}{B:Nat}{v:Value}{l:List Int}(h:U32s w B v l){w':World}(hb:Below w.heap.size w w'):U32s w' 0 v l:=(h.below hb).low (Nat.zero_le _)
theorem nshifted_call (x:List Int) (vx:Value) (p q:Int) (i n B:Nat) (w:World) (z z':Int) (hx:Dig x) (h:U32s w B vx x) (hi:i<32) (hp:p=2^i) (hq:q=2^(32-i)) (hlx:x.length≤n) (hlen:n≤1073741824) (hfit:dv x*p<4294967296^n) (hz:z=i) (hz':z'=n):
  Calls Tryz.prog 140 #[vx,.int .i64 z,.int .i64 z'] w fun e w'=>(∃g cap out,e= .returned (.slice (some ⟨g,0,none⟩) n cap)∧U32s w' w.heap.size (.slice (some ⟨g,0,none⟩) n cap) out∧Dig out∧out.length=n∧dv out=dv x*p)∧Below w.heap.size w w':=by
 subst hz hz'
 exact nshifted_any x vx p q i n B w hx h hi hp hq hlx hlen hfit
theorem ndivide_many (X Y m:Nat) (vx vy:Value) (w:World) (hx:U32s w 0 vx (digs X)) (hy:U32s w 0 vy (digs Y)) (hle:Y≤X) (hYl:(digs Y).length=m+2) (hlen:(digs X).length≤536870912):
  Calls Tryz.prog 132 #[vx,vy] w fun e w'=>RetDiv X Y e w'∧Below w.heap.size w w':=by
 have hc:0≤cmpN X Y:=by unfold cmpN;split<;>first|omega|(split<;>omega)
 have hlm:=digs_len_mono hle
 have hmb:m≤536870912:=by omega
 obtain⟨t,ht,ht0,ht1,htl,hth⟩:=top_digit (m:=m+1) (by omega:(digs Y).length=m+1+1)
 obtain⟨n1,n2,n3,n4⟩:=norm_digit ht0 ht1;obtain⟨i,hi⟩: ∃i,i=32-Lib.bitLen t:=⟨_,rfl⟩
 have hie:(32:Int)-(Lib.bitLen t:Int)=(i:Int):=by omega
 rw[←hi] at n2 n3 n4
 have hp0:0<2^i:=Nat.pow_pos (by omega)
 have hp1:2^i≤2147483648:=Nat.pow_le_pow_right (show 0<2 by omega) (show i≤31 by omega)
 obtain⟨p,hp⟩: ∃p:Nat,p=2^i:=⟨_,rfl⟩;rw[←hp] at n3 n4 hp0 hp1
 have hpi:(p:Int)=2^i:=by rw[hp];simp
 have f1:(Y:Int)*p<4294967296^(m+1+1):=fit_v (by omega) hth (cast_le n4)
 have hXl:=digs_lt X
 obtain⟨M,hM⟩: ∃M,(digs X).length+1=M+(m+2):=⟨(digs X).length+1-(m+2),by omega⟩
 have f2:(X:Int)*p<4294967296^((digs X).length+1):=fit_x hXl (by omega) (by omega)
 have f3:(X:Int)*p<(Y:Int)*p*4294967296^M:=fit_u (m:=m+1) hXl (by omega) (by omega) htl (cast_ge n3) hM
 obtain⟨a',cap',rfl,hc',hm',hcell'⟩:=hy.open
 obtain⟨g',_,hg',rfl,hcy⟩:=hcell' (m+1) (by omega)
 rw[ht] at hcy;clear hcell';have HF:=Lib.hid (And.intro f1 (And.intro f2 (And.intro f3 (And.intro htl (And.intro n3 (And.intro hpi (And.intro hp hXl)))))));have HYL:=Lib.hid hYl;have HM:=Lib.hid hM;have HI:=Lib.hid hie;have HC:=Lib.hid (And.intro (dv_digs X) (dv_digs Y));have n3':=Lib.hid hlm;clear f1 f2 f3 htl hth n3 n4 hpi hp hXl hYl hM hie hi ht hlm
 go_enter Tryz.func132,Tryz.ntmps132
 go_wp2_with fail
 refine(ncompare_any X Y vx _ 0 _ hx hy).mono ?_
 generalize cmpN X Y=c at hc;rintro e w1 ⟨rfl,hb⟩;have hx1:=hx.extend hb;have hy1:=hy.extend hb
 have hcy1:w1.cell? ⟨g',m+1,none⟩=some (.int .u32 t):=by rw[hb.cell (p:=⟨g',m+1,none⟩) hg'];exact hcy
 clear hcy hx hy;have hYl:=HYL.out;have Hx1:=Lib.hid hx1;have Hy1:=Lib.hid hy1;clear hx1 hy1
 have k1: ¬((m:Int)+2=1):=by omega
 go_wp2_with (go_at_call 139;refine(Tryz.bits_LeadingZeros32 _ _ (by omega) (by omega)).mono ?_;rintro e w' ⟨rfl,rfl⟩)
 rw[HI.out];have hy1:=Hy1.out;rw[hYl] at hy1
 refine(nshifted_call (digs Y) _ (p:Int) _ i (m+2) 0 _ _ _ (digs_dig Y) hy1 n2 HF.out.2.2.2.2.2.1 rfl (by omega) (by omega) (by rw[HC.out.2];exact HF.out.1) rfl (by omega)).mono ?_
 rintro e w2 ⟨⟨gv,cv,vl,rfl,hv,hvd,hvl,hve⟩,hb2⟩;have hb12:=hb.tr hb2;have hx2:=Hx1.out.extend hb2;rw[HC.out.2] at hve;obtain⟨ax,cx,rfl,hcx,hmx,hcellx⟩:=hx2.open;clear hcellx hcy1;have HX2:=Lib.hid hx2;clear hx2
 go_wp2_with fail
 refine(nshifted_call (digs X) _ (p:Int) _ i ((digs X).length+1) 0 _ _ _ (digs_dig X) HX2.out n2 HF.out.2.2.2.2.2.1 rfl (by omega) (by omega) (by rw[HC.out.1];exact HF.out.2.1) rfl (by omega)).mono ?_
 rintro e w3 ⟨⟨gu,cu,ul,rfl,hu,hud,hul,hue⟩,hb3⟩;rw[HC.out.1] at hue;have hb13:=hb12.tr hb3;have hv3:=hv.below hb3;have hvlt:=(hv.len_cap).2.2.2.2;have hvge:=(hv.len_cap).2.2.2.1;have hug:=(hu.len_cap).2.2.2
 have hgv:gu≠gv:=by omega
 clear hv;have hM:=HM.out
 have hMe:((digs X).length:Int)+1-((m:Int)+2)=M:=by omega
 have hmk:=urun_mk (M:Int) M rfl (by omega)
 have hmade:=U32s.made w3 M (by omega)
 have Hmade:=Lib.hid hmade;clear hmade;have HME:=Lib.hid hMe;clear hMe
 go_wp2_with fail
 clear hmk;have hgq0:=hb13.size;have hbm:Below w.heap.size w (w3.alloc (.cells (uzrow M) 138)):=hb13.alloc hb13.size _;have hu4:=Lib.hid (hu.alloc (.cells (uzrow M) 138));have hv4:=Lib.hid (hv3.alloc (.cells (uzrow M) 138));obtain⟨gq,hgq⟩: ∃gq,w3.heap.size=gq:=⟨_,rfl⟩
 have hguq:gu≠gq:=by omega
 have hgvq:gv≠gq:=by have:=hb3.size;omega
 have hqw:w.heap.size≤gq:=by omega
 have huw:w.heap.size≤gu:=by have:=hb12.size;omega
 have hul2:ul.length=M+(m+2):=by omega
 have hcul:=(hu.len_cap).2.1;have hcum:=(hu.len_cap).2.2.1;rw[hgq] at Hmade⊢
 have hv0:=top_v (m:=m+1) hvd (by omega) hve (by omega) HF.out.2.2.2.1 (cast_ge HF.out.2.2.2.2.1)
 have hgi:=GI.start (V:=(Y:Int)*p) (n:=m+2) (M:=M) hud hul2 hue HF.out.2.2.1
 have hV0:(0:Int)<(Y:Int)*p:=Int.mul_pos (by have:=digs_eq_nil (n:=Y);have h9:=HYL.out;rcases Nat.eq_zero_or_pos Y with h|h<;>first|omega|(rw[this.2 h] at h9;simp at h9)) (by omega)
 obtain⟨U,hU⟩: ∃U,U=(X:Int)*p:=⟨_,rfl⟩;obtain⟨V,hV⟩: ∃V,V=(Y:Int)*p:=⟨_,rfl⟩;rw[←hU,←hV] at hgi;rw[←hV] at hV0 hve;have HUV:=Lib.hid (And.intro hU hV);have Hgi:=Lib.hid hgi;have HUL:=Lib.hid (And.intro hue (And.intro hul hud));clear hU hV hgi hue hul hud hul2
 go_loopw [12] (fun k wr=> ∃(ul ql:List Int) (jj:Nat),jj≤M∧GI U V (m+2) (M+(m+2)) M jj ul ql∧U32s wr 0 (.slice (some ⟨gu,0,none⟩) (M+(m+2)) cu) ul∧U32s wr 0 (.slice (some ⟨gq,0,none⟩) M M) ql∧U32s wr 0 (.slice (some ⟨gv,0,none⟩) (m+2) cv) vl∧k= .int .i64 ((jj:Int)-1)∧Below w.heap.size w wr) (fun k _=>(intOf k+1).toNat)
 case atStart=>exact⟨ul,_,M,Nat.le_refl _,Hgi.out,by rw[←hM];exact hu4.out.low (Nat.zero_le _),Hmade.out.low (Nat.zero_le _),hv4.out.low (Nat.zero_le _),rfl,hbm⟩
 case round=>
  clear Hgi hu4 hv4 Hmade hbm hu;obtain⟨ul,ql,jj,hjM,hgi,hu,hq,hv,rfl,hbel⟩:=hrel
  cases jj with
  | zero=>
   obtain⟨e1,e2⟩:=hgi.done hV0;have hdq:=hgi.dq;have hdu:=hgi.du.take (m+2);have hlu:=hgi.lu
   have ht1:U32s wr 0 (.slice (some ⟨gu,0,none⟩) (m+2) cu) (ul.take (m+2)):=by
    have h9:=U32s.take (n:=m+2) (a:=some ⟨gu,0,none⟩) (cap:=cu) (l:=ul) (by rw[hlu];exact hu) (by omega) (by omega)
    exact h9
   have hD:=Lib.hid (show digs (dv ql).toNat=digs (X/Y) from by rw[e2,HUV.out.1,HUV.out.2,div_shift (by omega),Int.toNat_natCast])
   have hR:=Lib.hid (show digs ((dv (ul.take (m+2))).toNat/p)=digs (X %Y) from by rw[e1,HUV.out.1,HUV.out.2,mod_shift hp0])
   clear e1 e2;have hbd:=hbel.drew;have hqd:U32s wr.drew 0 (.slice (some ⟨gq,0,none⟩) M M) ql:=World.ownsRow.drew hq;have hud:U32s wr.drew 0 (.slice (some ⟨gu,0,none⟩) (m+2) cu) (ul.take (m+2)):=World.ownsRow.drew ht1
   have hcu2:M+(m+2)≤cu:=by rw[←hM,←HUL.out.2.1];exact hcul
   have hcu3:=hcum;unfold maxLen at hcu3;have hpN:p=2^i:=HF.out.2.2.2.2.2.2.1
   have hltk:(ul.take (m+2)).length≤1073741824:=by rw[List.length_take];omega
   have HPN:=Lib.hid hpN;clear hpN hq hu hv ht1 hbel
   go_wp2_with fail
   have s0:(0:Int)≤(m:Int)+2:=by omega
   have s1:(m:Int)+2≤(cu:Int):=by omega
   have s2:((m:Int)+2).toNat=m+2:=by omega
   go_region_held3 (fun _=>True) (first|go_keep|exact trivial) (first|(go_at_call 134;refine(utrim_any ql _ 0 _ hdq hqd).mono ?_;rintro e w' ⟨⟨v2,rfl,hv2⟩,rfl⟩)|(go_at_call 143;refine(nunshifted_any (ul.take (m+2)) _ p i 0 _ hdu hud n2 HPN.out hltk).mono ?_;rintro e w5 ⟨⟨v3,rfl,hv3⟩,hb5⟩))
   all_goals go_wp2
   all_goals go_ret2
   all_goals exact⟨⟨v2,v3,rfl,(hv2.extend hb5).of_eq hD.out,(hv3.low (Nat.zero_le _)).of_eq hR.out⟩,hbd.tr hb5⟩
  |succ j=>
   have em:((j+1:Nat):Int)-1=j:=by omega
   rw[em];clear em
   have h0:(0:Int)≤j:=by omega
   have hlu:=hgi.lu
   obtain⟨hWd,hWl,hW0,hWlt,hWe⟩:=hgi.win (by omega)
   have hsp:ul=ul.take j++(win ul j (m+2)++ul.drop (j+(m+2)+1)):=win_split ul j (m+2) (by omega)
   obtain⟨a0,a0'⟩:=hu.at (j+(m+2)) (by omega)
   obtain⟨a1,a1'⟩:=hu.at (j+(m+1)) (by omega)
   obtain⟨a2,a2'⟩:=hu.at (j+m) (by omega)
   rw[←win_get ul j (m+2) (m+2) (by omega) (by omega)] at a0
   rw[←win_get ul j (m+2) (m+1) (by omega) (by omega)] at a1
   rw[←win_get ul j (m+2) m (by omega) (by omega)] at a2
   obtain⟨b0,b0'⟩:=hv.at (m+1) (by omega)
   obtain⟨b1,b1'⟩:=hv.at m (by omega)
   have hw0:=hWd.get (m+2) (by omega)
   have hw1:=hWd.get (m+1) (by omega)
   have hw2:=hWd.get m (by omega)
   have hv1:=hvd.get (m+1) (by omega)
   have hv2:=hvd.get m (by omega)
   have htle:=top_le (n:=m+1) hWd hvd (by omega) (by omega) (by rw[hve];exact hWlt)
   obtain⟨D,hES⟩:=ES.exists (u0:=(win ul j (m+2))[m+2]) (u1:=(win ul j (m+2))[m+1]) (u2:=(win ul j (m+2))[m]) (v0:=vl[m+1]) (v1:=vl[m]) (by omega) (by omega)
   have hcl:=est_close (n:=m) hWd hvd hWl hvl (by rw[hve];exact hWlt) hv0 hES
   have HGI:=Lib.hid hgi;have HSP:=Lib.hid hsp;have HWE:=Lib.hid hWe;have HW:=Lib.hid (And.intro hWd (And.intro hWl hcl));have hcl0:=hES.1;have hcl1:=hES.2.1;have HES:=Lib.hid hES;clear hgi hsp hWe hcl hES a0' a1' a2' b0' b1' HUV HF;generalize (win ul j (m+2))[m+2]=u0 at*;generalize (win ul j (m+2))[m+1]=u1 at*;generalize (win ul j (m+2))[m]=u2 at*;generalize vl[m+1]=v0 at*
   generalize vl[m]=v1 at*;clear hWd hWl;obtain⟨g1,g2⟩:=hw0;obtain⟨g3,g4⟩:=hw1;obtain⟨g5,g6⟩:=hw2;obtain⟨g7,g8⟩:=hv1;obtain⟨g9,g10⟩:=hv2
   have hjM2:j≤1073741824:=by omega
   have k0:(0:Int)≤(j:Int)+((m:Int)+2):=by omega
   have k1:(j:Int)+((m:Int)+2)<((M+(m+2):Nat):Int):=by omega
   have k1':(j:Int)+((m:Int)+2)<(M:Int)+((m:Int)+2):=by omega
   have k2:((j:Int)+((m:Int)+2)).toNat=j+(m+2):=by omega
   have k3:IntKind.i64.wrap ((j:Int)+((m:Int)+2))=(j:Int)+((m:Int)+2):=IntWalk.i64_in _ (by omega)
   have p0:(0:Int)≤(j:Int)+((m:Int)+2)-1:=by omega
   have p1:(j:Int)+((m:Int)+2)-1<((M+(m+2):Nat):Int):=by omega
   have p1':(j:Int)+((m:Int)+2)-1<(M:Int)+((m:Int)+2):=by omega
   have p2:((j:Int)+((m:Int)+2)-1).toNat=j+(m+1):=by omega
   have p3:IntKind.i64.wrap ((j:Int)+((m:Int)+2)-1)=(j:Int)+((m:Int)+2)-1:=IntWalk.i64_in _ (by omega)
   have q0:(0:Int)≤(j:Int)+((m:Int)+2)-2:=by omega
   have q1:(j:Int)+((m:Int)+2)-2<((M+(m+2):Nat):Int):=by omega
   have q1':(j:Int)+((m:Int)+2)-2<(M:Int)+((m:Int)+2):=by omega
   have q2:((j:Int)+((m:Int)+2)-2).toNat=j+m:=by omega
   have q3:IntKind.i64.wrap ((j:Int)+((m:Int)+2)-2)=(j:Int)+((m:Int)+2)-2:=IntWalk.i64_in _ (by omega)
   go_wp2
   go_quiet (first|(go_at_call 141;exact Calls.quiet_of (nestimate_any _ _ _ _ _ _ (by assumption) (by assumption) (by assumption) (by assumption) (by assumption) (by assumption) (by assumption) (by assumption) (by assumption) (by assumption) (by assumption) D HES.out)))
   rename_i nq
   have hb5:=below_drewN hbel nq;have hu5:=hu.drewN nq;have hq5:=hq.drewN nq;have hv5:=hv.drewN nq;clear k0 k1 k1' k2 k3 p0 p1 p1' p2 p3 q0 q1 q1' q2 q3 a0 a1 a2 b0 b1 hu hq hv hbel;generalize wr.drewN nq=wq at*
   have hcu2:M+(m+2)≤cu:=by rw[←hM,←HUL.out.2.1];exact hcul
   have hcu3:=hcum;unfold maxLen at hcu3
   go_wp2_with fail
   rw[show j+(m+2)+1-j=m+2+1 from by omega]
   have hlo:(ul.take j).length=j:=by rw[List.length_take];omega
   refine(ntake_any (ul.take j) (win ul j (m+2)) (ul.drop (j+(m+2)+1)) vl _ gu j (m+2) (M+(m+2)) cu (cu-j) 0 D wq HW.out.1 hvd hlo HW.out.2.1 hvl (hu5.of_eq HSP.out) hv5 (fun e=>hgv (by cases e;rfl)) (by omega) (by omega) (by omega) hcl0 hcl1 HW.out.2.2.1 HW.out.2.2.2).mono ?_
   rintro e w6 ⟨⟨Q,win',rfl,hTK,hu6⟩,hg6⟩
   have hq6:=hq5.kept hg6 (.inr (fun e=>hguq (by cases e;rfl)))
   have hv6:=hv5.kept hg6 (.inr (fun e=>hgv (by cases e;rfl)))
   have hb6:=hb5.grown hg6 hb5.size (fun k e=>by cases e;exact huw)
   have hlq:=HGI.out.lq
   obtain⟨c1,c2⟩:=hq6.at j (by omega)
   have hset:=Lib.hid (hq6.set j Q);have hgs:=grownBy_setCell w6 gq j (.int .u32 Q)
   have hu7:=Lib.hid (hu6.kept hgs (.inr (fun e=>hguq (by cases e;rfl))))
   have hv7:=Lib.hid (hv6.kept hgs (.inr (fun e=>hgvq (by cases e;rfl))))
   have hnx:=Lib.hid (HGI.out.step (w':=win') (D:=Q) (by omega) (by omega) hTK.dig hTK.len hTK.q0 hTK.q1 (by rw[←hve];exact hTK.val) (by rw[←hve];exact hTK.lt) hTK.top)
   clear hTK hu6 hgs hu5 hv5 hq5
   go_wp2_with fail
   go_roundw
   case rel=>exact⟨_,_,j,by omega,hnx.out,hu7.out,hset.out,hv7.out,rfl,hb6.setCell (p:=⟨gq,j,none⟩) hqw _⟩
   case measure=>first|(simp[intOf];done)|(simp[intOf];omega)
end Go.Proofs.YtinmmkcjjlconaaGreat
