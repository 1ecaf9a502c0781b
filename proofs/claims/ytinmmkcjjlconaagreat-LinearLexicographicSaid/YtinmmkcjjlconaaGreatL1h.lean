/- Parts of the proofs about this seat's statements. -/
import Derived.Test.YtinmmkcjjlconaaGreatL1g
set_option maxRecDepth 100000
set_option maxHeartbeats 16000000
namespace Go.Proofs.YtinmmkcjjlconaaGreat
open Go.RowKit W
open Pl (nb bv bv_nb nb_size_zero)
open Lp (S S_succ)
theorem leaving_any (D:TD) (o:TDo D) (T:Lp.Tab) (bar:Nat→Bool) (s gd:Nat) (w:World) (h:TM D w T bar) (hd:RowF w gd D.m (fun i=>T.a i s)) (hin: ∀i k,i<D.m→k<D.m→T.bas i=T.bas k→i=k) (sA: ∀i,i<D.m→Sz (T.a i s) 40000) (sB: ∀i,i<D.m→Sz (T.b i) 40000):
  Calls Tryz.prog 102 #[.pointer (some ⟨D.bt,0,none⟩),.slice (some ⟨gd,0,none⟩) D.m D.m] w fun e w'=>((e= .returned (.int .i64 (-1))∧Lp.NoBest T s D.m)∨∃r:Nat,e= .returned (.int .i64 (r:Int))∧Lp.Best (Lp.ordP (D.n+D.m)) T s D.m r)∧Below w.heap.size w w':=by
 have hm:=o.hm;obtain⟨av,cv,hvv,hav⟩:=o.sv;obtain⟨ab,cb,hvb,hab⟩:=o.sb;have hft:=h.tf;have HC:Hid (∀W,Below w.heap.size w W→W.cell? ⟨D.bt,5,none⟩=some (.slice ab D.m cb)∧W.cell? ⟨D.bt,9,none⟩=some (.slice av D.m cv)):=Lib.hid (fun W hb=>⟨(hvb▸hft.c hb 5 rfl),(hvv▸hft.c hb 9 rfl)⟩)
 have HBs:Hid (∀W,Below w.heap.size w W→∀i,i<D.m→W.cell? ⟨D.gb,i,none⟩=some (.int .i64 (T.bas i:Int))):=Lib.hid (fun W hb i hi=>((h.below hb).basis (by omega)).2 i hi)
 have HVs:Hid (∀W,Below w.heap.size w W→∀i,i<D.m→W.cell? ⟨D.gv,i*3,none⟩=some (.bool (decide ((T.b i).num<0)))∧W.cell? ⟨D.gv,i*3+1,none⟩=some (.string (nb (T.b i).num.natAbs))∧W.cell? ⟨D.gv,i*3+1+1,none⟩=some (.string (nb (T.b i).den))):=Lib.hid (fun W hb i hi=>((h.below hb).vals (by omega)).2 i hi)
 have HDs:Hid (∀W,Below w.heap.size w W→∀i,i<D.m→W.cell? ⟨gd,i*3,none⟩=some (.bool (decide ((T.a i s).num<0)))∧W.cell? ⟨gd,i*3+1,none⟩=some (.string (nb (T.a i s).num.natAbs))∧W.cell? ⟨gd,i*3+1+1,none⟩=some (.string (nb (T.a i s).den))):=Lib.hid (fun W hb i hi=>(hd.below hb).2 i hi);have HBe:Hid (∀W (a b:Nat),a≠b→Below w.heap.size w W→Calls Tryz.prog 128 #[.pointer (some ⟨D.bt,0,none⟩),.int .i64 (a:Int),.int .i64 (b:Int)] W fun e w'=>e= .returned (.bool (decide (Lp.ordP (D.n+D.m) a<Lp.ordP (D.n+D.m) b)))∧Below W.heap.size W w'):=Lib.hid (fun W a b hab hb=>before_any D o a b hab W (hft.below hb))
 clear h hd hft hvv hvb o;generalize Lp.ordP (D.n+D.m)=ord at*
 have hav2: ∀i,i<D.m→av=some ⟨D.gv,0,none⟩:=fun i hi=>hav (by omega)
 have hab2: ∀i,i<D.m→ab=some ⟨D.gb,0,none⟩:=fun i hi=>hab (by omega)
 clear hav hab;generalize D.bt=bt at*;generalize D.m=m at*;generalize D.gb=gb at*;generalize D.gv=gv at*
 go_enter Tryz.func102,Tryz.ntmps102
 have⟨bL,ag⟩:=opn1 w [.bool false,.string ⟨#[]⟩,.string ⟨#[]⟩] 33
 go_upto_region 3 with fail
 generalize w.alloc (.cells #[.bool false,.string ⟨#[]⟩,.string ⟨#[]⟩] 33)=W0 at*;obtain⟨gL,hgL⟩: ∃g,g=w.heap.size:=⟨_,rfl⟩;rw[←hgL] at bL
 simp only[←hgL]
 have kgL:w.heap.size≤gL:=by omega
 clear hgL
 go_wp2_with fail
 go_loopw [5,14] (fun b i wr=> ∃k:Nat,k≤m∧i= .int .i64 k∧((b= .int .i64 (-1)∧Lp.NoBest T s k∧∃u0 u1 u2,Rx wr gL [u0,u1,u2])∨∃r:Nat,b= .int .i64 (r:Int)∧Lp.Best ord T s k r∧Rx wr gL [.bool (decide ((T.b r/T.a r s).num<0)),.string (nb (T.b r/T.a r s).num.natAbs),.string (nb (T.b r/T.a r s).den)])∧Below w.heap.size w wr) (fun _ i _=>m-(intOf i).toNat)
 case atStart=>exact⟨0,by omega,rfl,.inl ⟨rfl,fun i hi=>absurd hi (by omega),_,_,_,bL⟩,ag⟩
 case round=>
  clear ag bL;obtain⟨k,hk,rfl,hcase,ag⟩:=hrel
  by_cases hlt:k<m
  ·have hk0:(0:Int)≤(k:Int):=by omega
   have hk1:(k:Int)<(m:Int):=by omega
   obtain rfl:=hav2 k hlt;obtain rfl:=hab2 k hlt;have sx:=sA k hlt;have sy:=sB k hlt
   obtain⟨u0,u1,u2,bL,hcase⟩: ∃u0 u1 u2,Rx wr gL [u0,u1,u2]∧((u5= .int .i64 (-1)∧Lp.NoBest T s k)∨∃r:Nat,u5= .int .i64 (r:Int)∧Lp.Best ord T s k r∧u0= .bool (decide ((T.b r/T.a r s).num<0))∧u1= .string (nb (T.b r/T.a r s).num.natAbs)∧u2= .string (nb (T.b r/T.a r s).den)):=by
    rcases hcase with⟨h1,h2,_,_,_,h3⟩|⟨r,h1,h2,h3⟩
    ·exact⟨_,_,_,h3,.inl ⟨h1,h2⟩⟩
    ·exact⟨_,_,_,h3,.inr ⟨r,h1,h2,rfl,rfl,rfl⟩⟩
   have hcase:=Lib.hid hcase;obtain⟨c0,c1,c2⟩:=HDs.out _ ag k hlt;have kgE:=ag.size;replace ag:=ag.alloc ag.size (.cells #[.bool (decide ((T.a k s).num<0)),.string (nb (T.a k s).num.natAbs),.string (nb (T.a k s).den)] 33);have dgL:=bL.lt;replace bL:=bL.alloc (.cells #[.bool (decide ((T.a k s).num<0)),.string (nb (T.a k s).num.natAbs),.string (nb (T.a k s).den)] 33)
   have bE:=Rx.new wr _ rfl [.bool (decide ((T.a k s).num<0)),.string (nb (T.a k s).num.natAbs),.string (nb (T.a k s).den)] 33
   go_upto_region 6 with fail
   generalize wr.heap.size=gE at*;generalize wr.alloc (.cells #[.bool (decide ((T.a k s).num<0)),.string (nb (T.a k s).num.natAbs),.string (nb (T.a k s).den)] 33)=W1 at*;clear c0 c1 c2;have⟨e0,_,e1,_,e2,_⟩:=bE.c3
   go_wp2_with fail
   refine(asign_any (T.a k s) _ (sx.mono (by decide))).mono ?_
   rintro e W2 ⟨rfl,hb⟩;replace ag:=ag.tr hb;replace bL:=bL.below hb;replace bE:=bE.below hb;clear e0 e1 e2 hb
   by_cases hp:0<T.a k s
   ·rw [Rq.sgn_gt.2 hp]
    have hz:T.a k s≠0:=Rat.ne_of_gt hp;have sq:=Sz_div sy sx hz
    go_upto_region 7 with fail
    go_cut [9] (fun s9 wx=> ∃gQ,s9= .pointer (some ⟨gQ,0,none⟩)∧gL≠gQ∧Rx wx gL [u0,u1,u2]∧Rx wx gQ [.bool (decide ((T.b k/T.a k s).num<0)),.string (nb (T.b k/T.a k s).num.natAbs),.string (nb (T.b k/T.a k s).den)]∧Below w.heap.size w wx)
    case first=>
     have⟨s5,s9⟩:=HC.out _ ag;have⟨v0,v1,v2⟩:=HVs.out _ ag k hlt;have⟨e0,_,e1,_,e2,_⟩:=bE.c3;have hlL:=bL.lt
     refine wp_schB (ps 0 8 (.b (.c 8 (ps 9 3 (.c 12 (.c 13 (.p 14 .e))))) (.c 12 (.c 8 (ps 9 3 (.c 13 (.p 14 .e))))))) [0,7,8] fun A W hA hS=>?_
     repeat(first|(refine isP ?_;refine tkO ?_)|(refine isK ?_;refine skO ?_))
     refine⟨?_,?_⟩
     ·refine clO (aquo_any (T.b k) (T.a k s) _ (sy.mono (by decide)) (sx.mono (by decide)) hz) fun W hb hS=>?_
      repeat(first|(refine isP ?_;refine tkO ?_)|(refine isK ?_;refine skO ?_))
      refine alO fun W gQ bQ hb hg hS2=>?_
      have hgQ:=Nat.le_trans hS.size hg;clear hS
      refine st3 bQ fun W' bQ _ hS=>?_
      refine tkO ?_
      refine enO hA ?_
      go_wp2_with fail
      go_meet
      exact⟨gQ,rfl,by omega,bL.below hS,bQ,ag.tr hS⟩
     ·refine alO fun W gQ bQ hb hg hS2=>?_
      have hgQ:=Nat.le_trans hS.size hg;clear hS
      refine clO (aquo_any (T.b k) (T.a k s) _ (sy.mono (by decide)) (sx.mono (by decide)) hz) fun W' hb hS=>?_
      repeat(first|(refine isP ?_;refine tkO ?_)|(refine isK ?_;refine skO ?_))
      refine st3 (bQ.below hb) fun W'' bQ _ hS=>?_
      refine tkO ?_
      refine enO hA ?_
      go_wp2_with fail
      go_meet
      exact⟨gQ,rfl,by omega,bL.below hS,bQ,ag.tr hS⟩
    case rest=>
     clear bL bE ag;obtain⟨gQ,rfl,ngLgQ,bL,bQ,ag⟩:=hcut
     rcases hcase.out with⟨rfl,hN⟩|⟨r,rfl,hB,rfl,rfl,rfl⟩
     ·go_upto_region 11 with fail
      have hS:=Below.refl wc.heap.size wc
      refine wp_schB (ps 0 3 (ks 3 20 (.p 23 .e))) [11,0,7,5] fun A W hA hS=>?_
      repeat(first|(refine isP ?_;refine tkO ?_)|(refine isK ?_;refine skO ?_))
      refine enO hA ?_
      replace ag:=ag.tr hS;replace bL:=bL.below hS;replace bQ:=bQ.below hS;clear hA hS
      go_upto_region 12 with fail
      have⟨q0,_,q1,_,q2,_⟩:=bQ.c3;have hS:=Off.refl (fun b=>b=gL) W;have nLQ: ¬gQ=gL:=fun e=>ngLgQ e.symm
      refine wp_schS (ps 0 3 (.c 3 .e)) [7,9,6] fun A W hA hb hS=>?_
      repeat(first|(refine isP ?_;refine tkO ?_)|(refine isK ?_;refine skO ?_))
      refine st3 (bL.below hb) fun W' bL _ hS=>?_
      refine enO hA ?_
      go_wp2_with fail
      go_roundw
      case rel=>exact⟨k+1,by omega,by go_num,.inr ⟨k,rfl,hN.take hp,bL⟩,offB ag hS kgL ag.size⟩
      case measure=>simp[intOf];omega
     ·have hrk:r<k:=hB.lt
      have hrm:r<m:=by omega
      have hr0:(0:Int)≤(r:Int):=by omega
      have hr1:(r:Int)<(m:Int):=by omega
      have hr2: ¬(r:Int)<0:=by omega
      have hnb:T.bas k≠T.bas r:=fun e=>by have:=hin k r hlt hrm e;omega
      have⟨q0,_,q1,_,q2,_⟩:=bQ.c3;have⟨l0,_,l1,_,l2,_⟩:=bL.c3
      go_wp2_with fail
      refine(acmp_any (T.b k/T.a k s) (T.b r/T.a r s) _ (sq.mono (by decide)) ((Sz_div (sB r hrm) (sA r hrm) (Rat.ne_of_gt hB.pos)).mono (by decide))).mono ?_
      rintro e W3 ⟨rfl,hb⟩;replace ag:=ag.tr hb;replace bL:=bL.below hb;replace bQ:=bQ.below hb;clear q0 q1 q2 l0 l1 l2 hb
      rcases Rq.sgn_cases ((T.b k/T.a k s)-(T.b r/T.a r s)) with hc|hc|hc
      ·rw[hc]
       replace hc:(T.b k/T.a k s)<(T.b r/T.a r s):=by have:=Rq.sgn_lt.1 hc;grind
       go_upto_region 11 with fail
       have hS:=Below.refl W3.heap.size W3
       refine wp_schB (ps 0 3 (ks 3 20 (.p 23 .e))) [11,0,7,5] fun A W hA hS=>?_
       repeat(first|(refine isP ?_;refine tkO ?_)|(refine isK ?_;refine skO ?_))
       refine enO hA ?_
       replace ag:=ag.tr hS;replace bL:=bL.below hS;replace bQ:=bQ.below hS;clear hA hS
       go_upto_region 12 with fail
       have⟨q0,_,q1,_,q2,_⟩:=bQ.c3;have hS:=Off.refl (fun b=>b=gL) W;have nLQ: ¬gQ=gL:=fun e=>ngLgQ e.symm
       refine wp_schS (ps 0 3 (.c 3 .e)) [7,9,6] fun A W hA hb hS=>?_
       repeat(first|(refine isP ?_;refine tkO ?_)|(refine isK ?_;refine skO ?_))
       refine st3 (bL.below hb) fun W' bL _ hS=>?_
       refine enO hA ?_
       go_wp2_with fail
       go_roundw
       case rel=>exact⟨k+1,by omega,by go_num,.inr ⟨k,rfl,hB.swap hp (.inl hc),bL⟩,offB ag hS kgL ag.size⟩
       case measure=>simp[intOf];omega
      ·rw[hc]
       replace hc:=Lib.hid (show(T.b k/T.a k s)=(T.b r/T.a r s) by have:=Rq.sgn_zero.1 hc;grind)
       have⟨s5,_⟩:=HC.out _ ag;have cK:=HBs.out _ ag k hlt;have cR:=HBs.out _ ag r hrm
       by_cases hbf:ord (T.bas k)<ord (T.bas r)
       ·have hbd:=decide_eq_true hbf
        go_upto_region 11 with fail
        have hS:=Below.refl W3.heap.size W3
        refine wp_schB (ps 0 21 (.c 21 (ps 22 2 .e))) [11,0,7,5] fun A W hA hS=>?_
        repeat(first|(refine isP ?_;refine tkO ?_)|(refine isK ?_;refine skO ?_))
        refine clO (HBe.out _ (T.bas k) (T.bas r) hnb (ag.tr hS)) fun W hb hS=>?_
        rw[hbd]
        repeat(first|(refine isP ?_;refine tkO ?_)|(refine isK ?_;refine skO ?_))
        refine enO hA ?_
        replace ag:=ag.tr hS;replace bL:=bL.below hS;replace bQ:=bQ.below hS;clear hA hS
        go_upto_region 12 with fail
        have⟨q0,_,q1,_,q2,_⟩:=bQ.c3;have hS:=Off.refl (fun b=>b=gL) W;have nLQ: ¬gQ=gL:=fun e=>ngLgQ e.symm
        refine wp_schS (ps 0 3 (.c 3 .e)) [7,9,6] fun A W hA hb hS=>?_
        repeat(first|(refine isP ?_;refine tkO ?_)|(refine isK ?_;refine skO ?_))
        refine st3 (bL.below hb) fun W' bL _ hS=>?_
        refine enO hA ?_
        go_wp2_with fail
        go_roundw
        case rel=>exact⟨k+1,by omega,by go_num,.inr ⟨k,rfl,hB.swap hp (.inr ⟨hc.out,Nat.le_of_lt hbf⟩),bL⟩,offB ag hS kgL ag.size⟩
        case measure=>simp[intOf];omega
       ·have hbd:=decide_eq_false hbf
        go_upto_region 11 with fail
        have hS:=Below.refl W3.heap.size W3
        refine wp_schB (ps 0 21 (.c 21 (ps 22 2 .e))) [11,0,7,5] fun A W hA hS=>?_
        repeat(first|(refine isP ?_;refine tkO ?_)|(refine isK ?_;refine skO ?_))
        refine clO (HBe.out _ (T.bas k) (T.bas r) hnb (ag.tr hS)) fun W hb hS=>?_
        rw[hbd]
        repeat(first|(refine isP ?_;refine tkO ?_)|(refine isK ?_;refine skO ?_))
        refine enO hA ?_
        replace ag:=ag.tr hS;replace bL:=bL.below hS;replace bQ:=bQ.below hS;clear hA hS
        go_wp2_with fail
        go_roundw
        case rel=>exact⟨k+1,by omega,by go_num,.inr ⟨r,rfl,hB.keep hp (.inr ⟨hc.out,by omega⟩),bL⟩,ag⟩
        case measure=>simp[intOf];omega
      ·rw[hc]
       replace hc:(T.b r/T.a r s)<(T.b k/T.a k s):=by have:=Rq.sgn_gt.1 hc;grind
       go_upto_region 11 with fail
       have hS:=Below.refl W3.heap.size W3
       refine wp_schB (ps 0 6 (ks 6 16 (ps 22 2 .e))) [11,0,7,5] fun A W hA hS=>?_
       repeat(first|(refine isP ?_;refine tkO ?_)|(refine isK ?_;refine skO ?_))
       refine enO hA ?_
       replace ag:=ag.tr hS;replace bL:=bL.below hS;replace bQ:=bQ.below hS;clear hA hS
       go_wp2_with fail
       go_roundw
       case rel=>exact⟨k+1,by omega,by go_num,.inr ⟨r,rfl,hB.keep hp (.inl hc),bL⟩,ag⟩
       case measure=>simp[intOf];omega
   ·have hp2:T.a k s≤0:=Rat.not_lt.1 hp
    have hs: ∃z:Int,Rq.sgn (T.a k s)=z∧z≤0:=by
     rcases Rq.sgn_cases (T.a k s) with h|h|h
     ·exact⟨_,h,by decide⟩
     ·exact⟨_,h,by decide⟩
     ·exact absurd (Rq.sgn_gt.1 h) hp
    obtain⟨z,hz,hz0⟩:=hs;rw[hz];clear hz
    go_wp2_with fail
    rcases hcase.out with⟨rfl,hN⟩|⟨r,rfl,hB,rfl,rfl,rfl⟩
    ·go_roundw
     case rel=>exact⟨k+1,by omega,by go_num,.inl ⟨rfl,hN.skip hp2,_,_,_,bL⟩,ag⟩
     case measure=>simp[intOf];omega
    ·go_roundw
     case rel=>exact⟨k+1,by omega,by go_num,.inr ⟨r,rfl,hB.skip hp2,bL⟩,ag⟩
     case measure=>simp[intOf];omega
  ·obtain rfl:k=m:=by omega
   rcases hcase with⟨rfl,hN,_⟩|⟨r,rfl,hB,bL⟩
   ·go_wp2_with fail
    go_ret
    exact⟨.inl ⟨rfl,hN⟩,ag⟩
   ·go_wp2_with fail
    go_ret
    exact⟨.inr ⟨r,rfl,hB⟩,ag⟩
end Go.Proofs.YtinmmkcjjlconaaGreat
