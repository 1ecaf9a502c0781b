/- Parts of the proofs about this seat's statements. -/
import Derived.Test.YtinmmkcjjlconaaGreatL1g
set_option maxRecDepth 100000
set_option maxHeartbeats 16000000
namespace Go.Proofs.YtinmmkcjjlconaaGreat
open Go.RowKit W
open Pl (nb bv bv_nb nb_size_zero)
open Lp (S S_succ)
section
variable {D:TD} {w:World} {T:Lp.Tab} {bar:Nat→Bool}
theorem TDo.nmut (o:TDo D) (hm:0<D.m): ¬D.Mut D.bt∧¬D.Mut D.gi:=by
 refine⟨?_,?_⟩<;>(rintro (e|⟨_,e|e⟩|⟨i,hi,e⟩))
 ·exact o.n1.1 e
 ·exact(o.nb hm).1 e.symm
 ·exact(o.nv hm).1 e.symm
 ·exact(o.nq i hi).1 e.symm
 ·exact(o.ni hm).2.1 e
 ·exact(o.nb hm).2.2.2.1 e.symm
 ·exact(o.ni hm).2.2.2 e
 ·exact(o.nq i hi).2.2.2.1 e.symm
theorem TM.mlt (h:TM D w T bar) {k:Nat} (hk:D.Mut k):k<w.heap.size:=by
 rcases hk with e|⟨h0,e|e⟩|⟨i,hi,e⟩<;>subst e
 ·exact h.basic.1
 ·exact(h.basis h0).1
 ·exact(h.vals h0).1
 ·exact(h.rows i hi).1
end
section
variable {P:Program} {ops:Array Oper} {Q:Exit→Act→World→Prop} {S:World→Prop} {A:Act} {I L L':List (Nat×Value)} {w:World} {i:Nat} {r:Sc} {o:Oper} {ts:List Nat} {vs:List Value}
def E3(w:World)(b i:Nat)(v:V3):Prop:=(w.cell? ⟨b,i*3,none⟩=some v.a∧w.cell? ⟨b,i*3+1,none⟩=some v.b∧w.cell? ⟨b,i*3+1+1,none⟩=some v.c)∧w.frozen? ⟨b,i*3,none⟩=false∧w.frozen? ⟨b,i*3+1,none⟩=false∧w.frozen? ⟨b,i*3+1+1,none⟩=false
theorem Row3.e3{b m k:Nat}{V:Nat→V3}(h:Row3 w b m V)(hk:k<m):E3 w b k (V k):=⟨h.2 k hk,h.3 _,h.3 _,h.3 _⟩
theorem stR {b k:Nat} {v:V3} (q:Rat) (hR:E3 w b k v)
  (kk: ∀W,Hid (W=sto3 w b k (q3 q))→S W→Sch P ops Q S A I r L' W)
  (hS:S (sto3 w b k (q3 q)))
  (hi:ops[i]? =some o:=by(conv=>lhs;whnf;arg 1;whnf))
  (ht:o.looksAt ops=ts:=by(conv=>lhs;reduce))
  (hv:vls I L ts=vs:=by(repeat(apply vlC;focus(conv=>lhs;whnf)));exact rfl)
  (hw:Region.wanted o (yl ops I L)=true:=by kernel_rfl)
  (hy: ∀u,Fa u ts vs→E3 w b k v→Yn ((execOp u.eval o).run P w) .skip (sto3 w b k (q3 q)):=by intro a hF hc;(try dsimp only[Fa] at hF);dsimp only[E3] at hc;go_simp;exact Yn.mk)
  (hL:pt o.dst undef L=L':=by(conv=>lhs;whnf)):Sch P ops Q S A I (.c i r) L w:=
 rsO hS (kk _ (Lib.hid rfl) hS) hi ht hv hw (fun u h=>hy u h hR) hL
theorem E3.to{b k:Nat}{x y:Rat}(h:E3 w b k (q3 x))(e:x=y):E3 w b k (q3 y):=e▸h
theorem ldR {b k:Nat} (q:Rat) (hR:E3 w b k (q3 q)) (kk:Sch P ops Q S A I r L' w)
  (hS:S w:=by assumption)
  (hi:ops[i]? =some o:=by(conv=>lhs;whnf;arg 1;whnf))
  (ht:o.looksAt ops=ts:=by(conv=>lhs;reduce))
  (hv:vls I L ts=vs:=by(repeat(apply vlC;focus(conv=>lhs;whnf)));exact rfl)
  (hw:Region.wanted o (yl ops I L)=true:=by kernel_rfl)
  (hy: ∀u,Fa u ts vs→E3 w b k (q3 q)→Yn ((execOp u.eval o).run P w) (.value (.agg #[.bool (decide (q.num<0)),.string (nb q.num.natAbs),.string (nb q.den)])) w:=by intro a hF hc;(try dsimp only[Fa] at hF);dsimp only[E3,q3] at hc;go_simp;exact Yn.mk)
  (hL:pt o.dst (.agg #[.bool (decide (q.num<0)),.string (nb q.num.natAbs),.string (nb q.den)]) L=L':=by(conv=>lhs;whnf)):Sch P ops Q S A I (.c i r) L w:=
 ruO hS kk hi ht hv hw (fun u h=>hy u h hR) hL
end
theorem pivot_any (D:TD) (o:TDo D) (T:Lp.Tab) (bar:Nat→Bool) (r j gd:Nat) (w:World) (h:TM D w T bar) (hr:r<D.m) (hj:j<D.n+D.m+1) (hd:RowF w gd D.m (fun i=>T.a i j)) (hgd: ¬D.Mut gd) (hin: ∀i k,i<D.m→k<D.m→T.bas i=T.bas k→i=k) (hbN: ∀i,i<D.m→T.bas i<D.n+D.m+1) (hnb: ¬Lp.Bas D.m T j) (hp:T.a r j≠0)
  (sA: ∀i k,i<D.m→k<D.m→Sz (T.a i (D.n+k)) 40000) (sB: ∀i,i<D.m→Sz (T.b i) 40000) (sD: ∀i,i<D.m→Sz (T.a i j) 40000):
  Calls Tryz.prog 103 #[.pointer (some ⟨D.bt,0,none⟩),.int .i64 (r:Int),.int .i64 (j:Int),.slice (some ⟨gd,0,none⟩) D.m D.m] w fun e w'=>(∃v,e= .returned v)∧Off D.Mut w w'∧TM D w' (Lp.pivot T r j) bar:=by
 have hm:=o.hm;have hn:=o.hn;obtain⟨av,cv,hvv,hav⟩:=o.sv
 obtain rfl:=hav (by omega)
 obtain⟨ab,cb,hvb,hab⟩:=o.sb
 obtain rfl:=hab (by omega)
 obtain⟨ai,ci,hvi,hai⟩:=o.si
 obtain rfl:=hai (by omega)
 obtain⟨ck,hvk⟩:=o.sk
 have HL:Hid ((∀i,i<D.m→D.gq i<w.heap.size)∧D.gv<w.heap.size∧D.gb<w.heap.size∧D.gk<w.heap.size):=Lib.hid ⟨fun i hi=>(h.rows i hi).1,(h.vals (by omega)).1,(h.basis (by omega)).1,h.basic.1⟩
 have HC:Hid (∀W U,TM D W U bar→W.cell? ⟨D.bt,5,none⟩=some (.slice (some ⟨D.gb,0,none⟩) D.m cb)∧W.cell? ⟨D.bt,6,none⟩=some (.slice (some ⟨D.gk,0,none⟩) (D.n+D.m+1) ck)∧W.cell? ⟨D.bt,8,none⟩=some (.slice (some ⟨D.gi,0,none⟩) D.m ci)∧W.cell? ⟨D.bt,9,none⟩=some (.slice (some ⟨D.gv,0,none⟩) D.m cv)):=Lib.hid (fun W U hU=>⟨hvb▸hU.fix.at 5 rfl,hvk▸hU.fix.at 6 rfl,hvi▸hU.fix.at 8 rfl,hvv▸hU.fix.at 9 rfl⟩)
 have HI:Hid (∀W U,TM D W U bar→∀i,i<D.m→W.cell? ⟨D.gi,i,none⟩=some (.slice (some ⟨D.gq i,0,none⟩) D.m D.m)):=Lib.hid (fun W U hU i hi=>(hU.inv (by omega)).2 i hi)
 have HD:Hid (∀W,Off D.Mut w W→∀i,i<D.m→W.cell? ⟨gd,i*3,none⟩=some (.bool (decide ((T.a i j).num<0)))∧W.cell? ⟨gd,i*3+1,none⟩=some (.string (nb (T.a i j).num.natAbs))∧W.cell? ⟨gd,i*3+1+1,none⟩=some (.string (nb (T.a i j).den))):=Lib.hid (fun W hW i hi=>(hd.off hW hgd).2 i hi)
 have HQ1:Hid (∀k,k<D.m→∀W,_):=Lib.hid (fun k hk W=>aquo_any (T.a r (D.n+k)) (T.a r j) W ((sA r k hr hk).mono (by decide)) ((sD r hr).mono (by decide)) hp)
 have HQ2:=Lib.hid (fun W=>aquo_any (T.b r) (T.a r j) W ((sB r hr).mono (by decide)) ((sD r hr).mono (by decide)) hp)
 have HM1:Hid (∀i k,i<D.m→k<D.m→∀W,_):=Lib.hid (fun i k hi hk W=>amul_any (T.a i j) (T.a r (D.n+k)/T.a r j) W ((sD i hi).mono (by decide)) ((Sz_div (sA r k hr hk) (sD r hr) hp).mono (by decide)))
 have HS1:Hid (∀i k,i<D.m→k<D.m→∀W,_):=Lib.hid (fun i k hi hk W=>asub_any (T.a i (D.n+k)) (T.a i j*(T.a r (D.n+k)/T.a r j)) W ((sA i k hi hk).mono (by decide)) ((Sz_mul (sD i hi) (Sz_div (sA r k hr hk) (sD r hr) hp)).mono (by decide)))
 have HM2:Hid (∀i,i<D.m→∀W,_):=Lib.hid (fun i hi W=>amul_any (T.a i j) (T.b r/T.a r j) W ((sD i hi).mono (by decide)) ((Sz_div (sB r hr) (sD r hr) hp).mono (by decide)))
 have HS2:Hid (∀i,i<D.m→∀W,_):=Lib.hid (fun i hi W=>asub_any (T.b i) (T.a i j*(T.b r/T.a r j)) W ((sB i hi).mono (by decide)) ((Sz_mul (sD i hi) (Sz_div (sB r hr) (sD r hr) hp)).mono (by decide)))
 have hT:=p1_zero (r:=r) (s:=j) h;have ag:=Off.refl D.Mut w
 have hr0:(0:Int)≤(r:Int):=by omega
 have hr1:(r:Int)<(D.m:Int):=by omega
 have hj0:(0:Int)≤(j:Int):=by omega
 have hgd0:=hgd;have HM0: ∀ {k:Nat},D.Mut k→k<w.heap.size:=h.mlt;clear sA sB sD hd hgd hav hab hai h;have hMl:Hid (∀k,D.Mut k→k<w.heap.size):=Lib.hid fun k hk=>HM0 hk
 obtain⟨mt,mi⟩:=o.nmut (by omega)
 have hgd:=hgd0
 go_enter Tryz.func103,Tryz.ntmps103
 have s8:=(HC.out _ _ hT).2.2.1;have si:=HI.out _ _ hT r hr
 go_upto_region 1 with fail
 clear s8 si
 go_wp2_with fail
 go_loopw [22] (fun i wr=> ∃k:Nat,k≤D.m∧i= .int .i64 k∧TM D wr (P1 D.n T r j k) bar∧Off D.Mut w wr) (fun i _=>D.m-(intOf i).toNat)
 case atStart=>exact⟨0,by omega,rfl,hT,ag⟩
 case round =>
  clear ag hT;obtain⟨k,hk,rfl,hT,ag⟩:=hrel
  by_cases hlt:k<D.m
  ·have hk0:(0:Int)≤(k:Int):=by omega
   have hk1:(k:Int)<(D.m:Int):=by omega
   obtain⟨c0,c1,c2⟩:=(hT.rows r hr).2 k hlt;rw[p1_at] at c0 c1 c2
   simp only[q3] at c0 c1 c2
   have kgE:=ag.size;replace ag:=ag.alloc (.cells #[.bool (decide ((T.a r (D.n+k)).num<0)),.string (nb (T.a r (D.n+k)).num.natAbs),.string (nb (T.a r (D.n+k)).den)] 33);replace hT:=hT.alloc (.cells #[.bool (decide ((T.a r (D.n+k)).num<0)),.string (nb (T.a r (D.n+k)).num.natAbs),.string (nb (T.a r (D.n+k)).den)] 33);have bE:=Rx.new wr _ rfl [.bool (decide ((T.a r (D.n+k)).num<0)),.string (nb (T.a r (D.n+k)).num.natAbs),.string (nb (T.a r (D.n+k)).den)] 33
   go_upto_region 3 with fail
   generalize wr.heap.size=gE at*;generalize wr.alloc (.cells #[.bool (decide ((T.a r (D.n+k)).num<0)),.string (nb (T.a r (D.n+k)).num.natAbs),.string (nb (T.a r (D.n+k)).den)] 33)=W1 at*;clear c0 c1 c2
   have mE: ¬D.Mut gE:=fun e=>by have:=hMl.out _ e;omega
   have s8:=(HC.out _ _ hT).2.2.1;have si:=HI.out _ _ hT r hr;obtain⟨d0,d1,d2⟩:=HD.out _ ag r hr;obtain⟨e0,_,e1,_,e2,_⟩:=bE.c3;have hS:=Off.refl D.Mut W1
   refine wp_schS (ps 0 13 (.c 13 (ps 14 4 (.c 18 .e)))) [0,1,8,9,3] fun A W hA hb hS=>?_
   replace hT:=hT.below hb;replace ag:=ag.step hb
   repeat(refine isP ?_;refine tkO ?_)
   refine clO (HQ1.out k hlt _) fun W hb hS=>?_
   replace hT:=hT.below hb;replace ag:=ag.step hb
   repeat(refine isP ?_;refine tkO ?_)
   refine stR (T.a r (D.n+k)/T.a r j) ((hT.rows r hr).e3 hlt) (fun W hE hS=>?_) (hS.trans (off_sto3 (M:=D.Mut) (.inr (.inr ⟨r,hr,rfl⟩)) _ _))
   replace hT:=hE.out▸p1_step rfl (hT.put_a o hr hlt (T.a r (D.n+k)/T.a r j));replace ag:=hE.out▸ag.trans (off_sto3 (M:=D.Mut) (.inr (.inr ⟨r,hr,rfl⟩)) k (q3 (T.a r (D.n+k)/T.a r j)))
   refine enO hA ?_
   go_wp2_with fail
   go_roundw
   case rel=>exact⟨k+1,by omega,by go_num,hT,ag⟩
   case measure=>simp[intOf];omega
  ·obtain rfl:k=D.m:=by omega
   clear HQ1
   go_upto_region 5 with fail
   have s9:=(HC.out _ _ hT).2.2.2;obtain⟨d0,d1,d2⟩:=HD.out _ ag r hr;have hS:=Off.refl D.Mut wr
   refine wp_schS (ps 0 11 (ps 12 4 (.c 11 (.c 16 (ps 17 4 (.c 21 .e)))))) [0,1,3] fun A W hA hb hS=>?_
   replace hT:=hT.below hb;replace ag:=ag.step hb
   repeat(refine isP ?_;refine tkO ?_)
   refine ldR (T.b r) ((hT.vals (by omega)).e3 hr) ?_
   refine clO (HQ2.out _) fun W hb hS=>?_
   replace hT:=hT.below hb;replace ag:=ag.step hb
   repeat(refine isP ?_;refine tkO ?_)
   refine stR (T.b r/T.a r j) ((hT.vals (by omega)).e3 hr) (fun W hE hS=>?_) (hS.trans (off_sto3 (M:=D.Mut) (.inr (.inl ⟨by omega,.inr rfl⟩)) _ _))
   replace hT:=hE.out▸p2_zero rfl (hT.put_b o hr (T.b r/T.a r j))
   replace ag:=hE.out▸ag.trans (off_sto3 (M:=D.Mut) (.inr (.inl ⟨by omega,.inr rfl⟩)) r (q3 (T.b r/T.a r j)))
   refine enO hA ?_
   clear hE hS hA hb s9 d0 d1 d2 HQ2
   go_wp2_with fail
   go_loopw [69] (fun i wr=> ∃i0:Nat,i0≤D.m∧i= .int .i64 i0∧TM D wr (P2 D.n T r j i0 0) bar∧Off D.Mut w wr) (fun i _=>D.m-(intOf i).toNat)
   case atStart=>exact⟨0,by omega,rfl,hT,ag⟩
   case round=>
    clear ag hT;obtain⟨i,hi,rfl,hT,ag⟩:=hrel
    by_cases hlt:i<D.m
    ·have hi0:(0:Int)≤(i:Int):=by omega
     have hi1:(i:Int)<(D.m:Int):=by omega
     obtain⟨c0,c1,c2⟩:=HD.out _ ag i hlt;have kgE:=ag.size;replace ag:=ag.alloc (.cells #[.bool (decide ((T.a i j).num<0)),.string (nb (T.a i j).num.natAbs),.string (nb (T.a i j).den)] 33);replace hT:=hT.alloc (.cells #[.bool (decide ((T.a i j).num<0)),.string (nb (T.a i j).num.natAbs),.string (nb (T.a i j).den)] 33);have bE:=Rx.new wr _ rfl [.bool (decide ((T.a i j).num<0)),.string (nb (T.a i j).num.natAbs),.string (nb (T.a i j).den)] 33
     go_upto_region 9 with fail
     generalize wr.heap.size=gE at*;generalize wr.alloc (.cells #[.bool (decide ((T.a i j).num<0)),.string (nb (T.a i j).num.natAbs),.string (nb (T.a i j).den)] 33)=W1 at*;clear c0 c1 c2
     by_cases hir:i=r
     ·replace hT:=p2_skip (.inl hir) hT
      have hir1:(i:Int)=(r:Int):=by omega
      rw[hir1]
      go_wp2_with fail
      rw[←hir1]
      go_roundw
      case rel=>exact⟨i+1,by omega,by go_num,hT,ag⟩
      case measure=>simp[intOf];omega
     ·have hir1: ¬(i:Int)=(r:Int):=by omega
      have hir2:((i:Int)==(r:Int))=false:=by simpa using hir1
      have mE: ¬D.Mut gE:=fun e=>by have:=hMl.out _ e;omega
      obtain⟨e0,_,e1,_,e2,_⟩:=bE.c3
      go_wp2_with fail
      refine(lz_any (T.a i j) _).mono ?_
      rintro e W' ⟨rfl,hb⟩;replace hT:=hT.below hb;replace ag:=ag.step hb;replace bE:=bE.below hb;clear hb e0 e1 e2
      by_cases hz:T.a i j=0
      ·rw[decide_eq_true hz]
       replace hT:=p2_skip (.inr hz) hT;clear hz
       go_wp2_with fail
       go_roundw
       case rel=>exact⟨i+1,by omega,by go_num,hT,ag⟩
       case measure=>simp[intOf];omega
      ·rw [decide_eq_false hz]
       clear hz;have s8:=(HC.out _ _ hT).2.2.1;have si:=HI.out _ _ hT r hr
       go_upto_region 11 with fail
       clear s8 si
       go_wp2_with fail
       go_loopw [89] (fun q wr=> ∃k:Nat,k≤D.m∧q= .int .i64 k∧TM D wr (P2 D.n T r j i k) bar∧Rx wr gE [.bool (decide ((T.a i j).num<0)),.string (nb (T.a i j).num.natAbs),.string (nb (T.a i j).den)]∧Off D.Mut w wr) (fun q _=>D.m-(intOf q).toNat)
       case atStart=>exact⟨0,by omega,rfl,hT,bE,ag⟩
       case round=>
        clear ag hT bE;obtain⟨k,hk,rfl,hT,bE,ag⟩:=hrel
        by_cases hlk:k<D.m
        ·have hk0:(0:Int)≤(k:Int):=by omega
         have hk1:(k:Int)<(D.m:Int):=by omega
         obtain⟨c0,c1,c2⟩:=(hT.rows r hr).2 k hlk;rw[p2_row] at c0 c1 c2
         simp only[q3] at c0 c1 c2
         have kgY:=ag.size;replace ag:=ag.alloc (.cells #[.bool (decide ((T.a r (D.n+k)/T.a r j).num<0)),.string (nb (T.a r (D.n+k)/T.a r j).num.natAbs),.string (nb (T.a r (D.n+k)/T.a r j).den)] 33);replace hT:=hT.alloc (.cells #[.bool (decide ((T.a r (D.n+k)/T.a r j).num<0)),.string (nb (T.a r (D.n+k)/T.a r j).num.natAbs),.string (nb (T.a r (D.n+k)/T.a r j).den)] 33)
         have bY:=Rx.new wr _ rfl [.bool (decide ((T.a r (D.n+k)/T.a r j).num<0)),.string (nb (T.a r (D.n+k)/T.a r j).num.natAbs),.string (nb (T.a r (D.n+k)/T.a r j).den)] 33;replace bE:=bE.alloc (.cells #[.bool (decide ((T.a r (D.n+k)/T.a r j).num<0)),.string (nb (T.a r (D.n+k)/T.a r j).num.natAbs),.string (nb (T.a r (D.n+k)/T.a r j).den)] 33)
         go_upto_region 13 with fail
         generalize wr.heap.size=gY at*;generalize wr.alloc (.cells #[.bool (decide ((T.a r (D.n+k)/T.a r j).num<0)),.string (nb (T.a r (D.n+k)/T.a r j).num.natAbs),.string (nb (T.a r (D.n+k)/T.a r j).den)] 33)=W2 at*;clear c0 c1 c2
         have mY: ¬D.Mut gY:=fun e=>by have:=hMl.out _ e;omega
         obtain⟨y0,_,y1,_,y2,_⟩:=bY.c3
         go_wp2_with fail
         refine(lz_any (T.a r (D.n+k)/T.a r j) _).mono ?_
         rintro e W' ⟨rfl,hb⟩;replace hT:=hT.below hb;replace ag:=ag.step hb;replace bE:=bE.below hb;replace bY:=bY.below hb;clear hb y0 y1 y2
         by_cases hy0:T.a r (D.n+k)/T.a r j=0
         ·rw[decide_eq_true hy0]
          replace hT:=p2_elem0 hir hy0 hT;clear hy0
          go_wp2_with fail
          go_roundw
          case rel=>exact⟨k+1,by omega,by go_num,hT,bE,ag⟩
          case measure=>simp[intOf];omega
         ·rw[decide_eq_false hy0]
          clear hy0
          go_upto_region 14 with fail
          have s8:=(HC.out _ _ hT).2.2.1;have si:=HI.out _ _ hT i hlt;obtain⟨e0,_,e1,_,e2,_⟩:=bE.c3;obtain⟨y0,_,y1,_,y2,_⟩:=bY.c3;have hS:=Off.refl D.Mut W'
          refine wp_schS (ps 0 17 (ps 18 2 (.b (.c 17 (.c 20 (.c 21 (.p 22 (.c 23 .e))))) (.c 20 (.c 17 (.c 21 (.p 22 (.c 23 .e)))))))) [0,10,12,11,13] fun A W hA hb hS=>?_
          replace hT:=hT.below hb;replace ag:=ag.step hb;replace bE:=bE.below hb
          repeat(refine isP ?_;refine tkO ?_)
          have nE:D.gq i≠gE:=fun e=>mE (e▸ .inr (.inr ⟨i,hlt,rfl⟩))
          refine⟨?_,?_⟩
          ·refine ldR (T.a i (D.n+k)) (((hT.rows i hlt).e3 hlk).to (p2_at hir)) ?_
           refine clO (HM1.out i k hlt hlk _) fun W hb hS=>?_
           replace hT:=hT.below hb;replace ag:=ag.step hb;replace bE:=bE.below hb
           all_goals
            refine clO (HS1.out i k hlt hlk _) fun W hb hS=>?_
            replace hT:=hT.below hb;replace ag:=ag.step hb;replace bE:=bE.below hb
            repeat(refine isP ?_;refine tkO ?_)
            refine stR (T.a i (D.n+k)-T.a i j*(T.a r (D.n+k)/T.a r j)) ((hT.rows i hlt).e3 hlk) (fun W hE hS=>?_) (hS.trans (off_sto3 (M:=D.Mut) (.inr (.inr ⟨i,hlt,rfl⟩)) _ _))
            replace hT:=hE.out▸p2_elem hir rfl (hT.put_a o hlt hlk (T.a i (D.n+k)-T.a i j*(T.a r (D.n+k)/T.a r j)));replace bE:=hE.out▸bE.sto3o (h:=D.gq i) (i:=k) nE (q3 (T.a i (D.n+k)-T.a i j*(T.a r (D.n+k)/T.a r j)));replace ag:=hE.out▸ag.trans (off_sto3 (M:=D.Mut) (.inr (.inr ⟨i,hlt,rfl⟩)) k (q3 (T.a i (D.n+k)-T.a i j*(T.a r (D.n+k)/T.a r j))))
            refine enO hA ?_
            go_wp2_with fail
            go_roundw
            case rel=>exact⟨k+1,by omega,by go_num,hT,bE,ag⟩
            case measure=>simp[intOf];omega
          ·refine clO (HM1.out i k hlt hlk _) fun W hb hS=>?_
           replace hT:=hT.below hb;replace ag:=ag.step hb;replace bE:=bE.below hb
           refine ldR (T.a i (D.n+k)) (((hT.rows i hlt).e3 hlk).to (p2_at hir)) ?_
           all_goals
            refine clO (HS1.out i k hlt hlk _) fun W hb hS=>?_
            replace hT:=hT.below hb;replace ag:=ag.step hb;replace bE:=bE.below hb
            repeat(refine isP ?_;refine tkO ?_)
            refine stR (T.a i (D.n+k)-T.a i j*(T.a r (D.n+k)/T.a r j)) ((hT.rows i hlt).e3 hlk) (fun W hE hS=>?_) (hS.trans (off_sto3 (M:=D.Mut) (.inr (.inr ⟨i,hlt,rfl⟩)) _ _))
            replace hT:=hE.out▸p2_elem hir rfl (hT.put_a o hlt hlk (T.a i (D.n+k)-T.a i j*(T.a r (D.n+k)/T.a r j)));replace bE:=hE.out▸bE.sto3o (h:=D.gq i) (i:=k) nE (q3 (T.a i (D.n+k)-T.a i j*(T.a r (D.n+k)/T.a r j)));replace ag:=hE.out▸ag.trans (off_sto3 (M:=D.Mut) (.inr (.inr ⟨i,hlt,rfl⟩)) k (q3 (T.a i (D.n+k)-T.a i j*(T.a r (D.n+k)/T.a r j))))
            refine enO hA ?_
            go_wp2_with fail
            go_roundw
            case rel=>exact⟨k+1,by omega,by go_num,hT,bE,ag⟩
            case measure=>simp[intOf];omega
        ·obtain rfl:k=D.m:=by omega
         go_upto_region 16 with fail
         have s9:=(HC.out _ _ hT).2.2.2;obtain⟨e0,_,e1,_,e2,_⟩:=bE.c3;have hS:=Off.refl D.Mut wr
         refine wp_schS (ps 0 11 (ps 12 7 (.b (.c 11 (.c 19 (.c 20 (.c 21 (.p 22 (.c 23 .e)))))) (.c 19 (.b (.c 11 (.c 20 (.c 21 (.p 22 (.c 23 .e))))) (.c 20 (.c 11 (.c 21 (.p 22 (.c 23 .e)))))))))) [0,10,11,1] fun A W hA hb hS=>?_
         replace hT:=hT.below hb;replace ag:=ag.step hb
         repeat(refine isP ?_;refine tkO ?_)
         refine⟨?_,?_⟩
         rotate_left
         refine ldR (T.b r/T.a r j) (((hT.vals (by omega)).e3 hr).to p2_br) ?_
         refine⟨?_,?_⟩
         refine ldR (T.b i) (((hT.vals (by omega)).e3 hlt).to (p2_bat hir)) ?_
         refine clO (HM2.out i hlt _) fun W hb hS=>?_
         replace hT:=hT.below hb;replace ag:=ag.step hb
         rotate_left
         refine clO (HM2.out i hlt _) fun W hb hS=>?_
         replace hT:=hT.below hb;replace ag:=ag.step hb
         refine ldR (T.b i) (((hT.vals (by omega)).e3 hlt).to (p2_bat hir)) ?_
         rotate_left
         refine ldR (T.b i) (((hT.vals (by omega)).e3 hlt).to (p2_bat hir)) ?_
         refine ldR (T.b r/T.a r j) (((hT.vals (by omega)).e3 hr).to p2_br) ?_
         refine clO (HM2.out i hlt _) fun W hb hS=>?_
         replace hT:=hT.below hb;replace ag:=ag.step hb
         all_goals
          refine clO (HS2.out i hlt _) fun W hb hS=>?_
          replace hT:=hT.below hb;replace ag:=ag.step hb
          repeat(refine isP ?_;refine tkO ?_)
          refine stR (T.b i-T.a i j*(T.b r/T.a r j)) ((hT.vals (by omega)).e3 hlt) (fun W hE hS=>?_) (hS.trans (off_sto3 (M:=D.Mut) (.inr (.inl ⟨by omega,.inr rfl⟩)) _ _))
          replace hT:=hE.out▸p2_next hir rfl (hT.put_b o hlt (T.b i-T.a i j*(T.b r/T.a r j)))
          replace ag:=hE.out▸ag.trans (off_sto3 (M:=D.Mut) (.inr (.inl ⟨by omega,.inr rfl⟩)) i (q3 (T.b i-T.a i j*(T.b r/T.a r j))))
          refine enO hA ?_
          go_wp2_with fail
          go_roundw
          case rel=>exact⟨i+1,by omega,by go_num,hT,ag⟩
          case measure=>simp[intOf];omega
    ·obtain rfl:i=D.m:=by omega
     clear HM1 HM2 HS1 HS2 HD
     go_upto_region 18 with fail
     obtain⟨n1,n2,n3,n4,n5⟩:=o.nb (by omega)
     have hbr:=hbN r hr
     have hb0:(0:Int)≤(T.bas r:Int):=by omega
     have hb1:(T.bas r:Int)<(D.n:Int)+(D.m:Int)+1:=by omega
     have hj1:(j:Int)<(D.n:Int)+(D.m:Int)+1:=by omega
     have bF:=hT.fix
     have bB:RowC wr D.gb D.m (fun i=>.int .i64 (T.bas i:Int)):=hT.basis (by omega)
     have s5:wr.cell? ⟨D.bt,5,none⟩=_:=hvb▸bF.at 5 rfl;have s6:wr.cell? ⟨D.bt,6,none⟩=_:=hvk▸bF.at 6 rfl;have cB:=bB.2 r hr;have fB:=bB.3 r;have m1: ¬D.bt=D.gk:=o.n1.1;have m2: ¬D.gb=D.gk:=n2;have hS:=Off.refl (fun b=>b=D.gk) wr
     refine wp_schS (ps 0 17 (.c 17 (.p 18 (.c 19 .e)))) [0,1,2] fun A W hA hb hS=>?_
     replace hT:=hT.below hb;replace ag:=ag.step hb
     repeat(refine isP ?_;refine tkO ?_)
     refine stC (hT.basic.2 _ hbr) (hT.basic.3 _) fun hS=>?_
     refine tkO ?_
     refine stC ((hT.basic.put hbr _).2 j hj) ((hT.basic.put hbr _).3 j) fun hS=>?_
     refine enO hA ?_
     have hu:=off_rule hS;have hf:=off_frz hS
     go_wp2_with fail
     go_end0
     exact⟨⟨_,rfl⟩,((ag.set (p:=⟨D.gk,T.bas r,none⟩) (.inl rfl) _).set (p:=⟨D.gk,j,none⟩) (.inl rfl) _).set (p:=⟨D.gb,r,none⟩) (.inr (.inl ⟨by omega,.inl rfl⟩)) _,p2_end (hT.put_bas o hr hj hbr hin hnb)⟩
end Go.Proofs.YtinmmkcjjlconaaGreat
