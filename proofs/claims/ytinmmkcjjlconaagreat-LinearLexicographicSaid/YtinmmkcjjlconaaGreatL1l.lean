/- Parts of the proofs about this seat's statements. -/
import Derived.Test.YtinmmkcjjlconaaGreatL1k
set_option maxRecDepth 100000
set_option maxHeartbeats 16000000
namespace Go.Proofs.YtinmmkcjjlconaaGreat
open Go.RowKit W
open Pl (nb bv bv_nb nb_size_zero)
open Lp (S S_succ)
theorem rlt_le{a b c:Rat}(h:a<b)(k:b≤c):a<c:=Rat.not_le.1 fun h2=>absurd (Rat.le_trans k h2) (Rat.not_le.2 h)
structure Fit (m n:Nat) (A:Nat→Nat→Rat) (B:Nat→Rat):Prop where
  t: ∀i j,i<m→Sz (Lp.mat m n A i j) 40000
  r: ∀i,i<m→Sz (B i) 40000
  a: ∀U,Lp.Way m n A B U→∀i j,i<m→j<n+m+1→Sz (U.a i j) 40000
  b: ∀U,Lp.Way m n A B U→∀i,i<m→Sz (U.b i) 40000
structure FitG (m n:Nat) (A:Nat→Nat→Rat) (B:Nat→Rat) (g:Nat→Rat):Prop where
  s: ∀j,j<n+m+1→Sz (g j) 40000
  y: ∀U,Lp.Way m n A B U→∀k,k<m→Sz (S m (fun i=>g (U.bas i)*U.a i (n+k))) 40000
theorem Fit.szT{D:TD}{g:Nat→Rat}{U:Lp.Tab}(f:Fit D.m D.n D.A D.B)(fg:FitG D.m D.n D.A D.B g)(w:Lp.Way D.m D.n D.A D.B U):SzT D g U:=⟨f.a U w,f.b U w,fg.y U w⟩
theorem Sz_zero:Sz 0 8:=⟨nbs (by decide) (by decide),nbs (by decide) (by decide)⟩
theorem Sz_m1:Sz (-1) 8:=Sz_neg Sz_one
theorem Fit.hc {m n:Nat} {A:Nat→Nat→Rat} {B:Nat→Rat} (f:Fit m n A B) (k:Nat):FitG m n A B (Lp.hc k):=by
 refine⟨fun j _=>?_,fun U w k' hk'=>?_⟩
 ·unfold Lp.hc
  split
  ·exact Sz_m1.mono (by decide)
  ·exact Sz_zero.mono (by decide)
 ·by_cases hb:Lp.Bas m U k
  ·obtain⟨i,hi,e⟩:=hb
   rw[Lp.hc_sum w.inv hi e]
   exact Sz_neg (f.a U w i _ hi (by omega))
  ·rw[Lp.hc_sum0 hb];exact Sz_zero.mono (by decide)
theorem alw_none (D:TD):Alw D (fun _=>false)=Lp.alP D.m D.n Lp.noBar:=by
 unfold Alw
 congr 1
 funext j
 simp[Lp.noBar]
structure LowT (B:Nat→Rat) (t r:Nat):Prop where
  lt:r<t
  neg:B r<0
  min: ∀i,i<t→B r≤B i
  first: ∀i,i<r→B r<B i
section
variable {B:Nat→Rat} {t r:Nat}
theorem LowT.skip (h:LowT B t r) (hl:B r≤B t):LowT B (t+1) r:=⟨by have:=h.lt;omega,h.neg,fun i hi=>by
 by_cases e:i=t
 ·subst e;exact hl
 ·exact h.min i (by omega),h.first⟩
theorem LowT.swap (h:LowT B t r) (hl:B t<B r):LowT B (t+1) t:=⟨by omega,rlt_le hl (Rat.le_of_lt h.neg),fun i hi=>by
 by_cases e:i=t
 ·subst e;exact Rat.le_refl
 ·exact Rat.le_trans (Rat.le_of_lt hl) (h.min i (by omega)),fun i hi=>rlt_le hl (h.min i hi)⟩
theorem LowT.new (h: ∀i,i<t→0≤B i) (hl:B t<0):LowT B (t+1) t:=⟨by omega,hl,fun i hi=>by
 by_cases e:i=t
 ·subst e;exact Rat.le_refl
 ·exact Rat.le_trans (Rat.le_of_lt hl) (h i (by omega)),fun i hi=>rlt_le hl (h i hi)⟩
end
theorem num_lt {q:Rat}:q.num<0↔q<0:=by
 have:=Rat.num_nonneg (q:=q)
 constructor
 ·intro h;exact Rat.not_le.1 fun h0=>absurd (this.2 h0) (by omega)
 ·intro h;exact Int.not_le.1 fun h0=>absurd (this.1 h0) (Rat.not_le.2 h)
theorem lef_any (D:TD) (k j:Nat) (B6 B7 B1:Nat) (w:World) (h:TF D w) (c6:w.cell? ⟨B6,0,none⟩=some (.int .i64 (k:Int))) (b7:Rx w B7 [.bool (decide ((-1:Rat).num<0)),.string (nb (-1:Rat).num.natAbs),.string (nb (-1:Rat).den)]) (c1:w.cell? ⟨B1,0,none⟩=some (.pointer (some ⟨D.bt,0,none⟩))) (l6:B6<w.heap.size) (l1:B1<w.heap.size):
  Calls Tryz.prog 107 #[.int .i64 (j:Int),.pointer (some ⟨B6,0,none⟩),.pointer (some ⟨B7,0,none⟩),.pointer (some ⟨B1,0,none⟩)] w fun e w'=>e= .returned (rv (Lp.hc k j))∧Below w.heap.size w w':=by
 have HC:Hid (∀W,Below w.heap.size w W→W.cell? ⟨D.bt,10,none⟩=some (.bool (decide ((0:Rat).num<0)))∧W.cell? ⟨D.bt,11,none⟩=some (.string (nb (0:Rat).num.natAbs))∧W.cell? ⟨D.bt,12,none⟩=some (.string (nb (0:Rat).den))):=Lib.hid (fun W hb=>⟨h.c hb 10 rfl,h.c hb 11 rfl,h.c hb 12 rfl⟩);clear h
 by_cases e:j=k
 ·subst e
  rw[show Lp.hc j j= -1 from if_pos rfl];clear HC;unfold rv;generalize (-1:Rat)=x at*
  go_enter Tryz.func107,Tryz.ntmps107
  have⟨bR,ag⟩:=opn1 w [.bool false,.string ⟨#[]⟩,.string ⟨#[]⟩] 33
  go_upto_region 1 with fail
  generalize w.alloc (.cells #[.bool false,.string ⟨#[]⟩,.string ⟨#[]⟩] 33)=W0 at*;obtain⟨gR,hgR⟩: ∃g,g=w.heap.size:=⟨_,rfl⟩;rw[←hgR] at bR
  simp only[←hgR]
  have kgR:w.heap.size≤gR:=by omega
  clear hgR;replace b7:=b7.below ag;have d0:=b7.at 0 rfl;have d1:=b7.at 1 rfl;have d2:=b7.at 2 rfl;have c6:=(ag.cell (p:=⟨B6,0,none⟩) l6).trans c6;have⟨cgR0,fgR0,cgR1,fgR1,cgR2,fgR2⟩:=bR.all3
  go_wp2_with fail
  refine bodyPost_ret (v:=.agg #[.bool (decide (x.num<0)),.string (nb x.num.natAbs),.string (nb x.den)]) (by simp[results,Tryz.results107,go_sem,cgR0,cgR1,cgR2]) rfl ⟨rfl,(((ag.setCell kgR _).setCell kgR _).setCell kgR _)⟩
 ·rw[show Lp.hc k j=0 from if_neg e]
  have hne: ¬(j:Int)=(k:Int):=by omega
  clear b7;unfold rv;generalize D.bt=bt at*
  go_enter Tryz.func107,Tryz.ntmps107
  have⟨bR,ag⟩:=opn1 w [.bool false,.string ⟨#[]⟩,.string ⟨#[]⟩] 33
  go_upto_region 1 with fail
  generalize w.alloc (.cells #[.bool false,.string ⟨#[]⟩,.string ⟨#[]⟩] 33)=W0 at*;obtain⟨gR,hgR⟩: ∃g,g=w.heap.size:=⟨_,rfl⟩;rw[←hgR] at bR
  simp only[←hgR]
  have kgR:w.heap.size≤gR:=by omega
  clear hgR;obtain⟨c0,c1',c2⟩:=HC.out _ ag;have c6:=(ag.cell (p:=⟨B6,0,none⟩) l6).trans c6;have c1:=(ag.cell (p:=⟨B1,0,none⟩) l1).trans c1;have⟨cgR0,fgR0,cgR1,fgR1,cgR2,fgR2⟩:=bR.all3
  go_wp2_with fail
  refine bodyPost_ret (v:=.agg #[.bool (decide ((0:Rat).num<0)),.string (nb (0:Rat).num.natAbs),.string (nb (0:Rat).den)]) (by simp[results,Tryz.results107,go_sem,cgR0,cgR1,cgR2]) rfl ⟨rfl,(((ag.setCell kgR _).setCell kgR _).setCell kgR _)⟩
theorem lef_enters:Enters 107:=enters_of Tryz.func107 (by kernel_rfl) rfl
theorem lef_fn (D:TD) (o:TDo D) (k N:Nat) (B6 B7 B1:Nat) (w:World) (h:TF D w) (b6:Rx w B6 [.int .i64 (k:Int)]) (b7:Rx w B7 [.bool (decide ((-1:Rat).num<0)),.string (nb (-1:Rat).num.natAbs),.string (nb (-1:Rat).den)]) (b1:Rx w B1 [.pointer (some ⟨D.bt,0,none⟩)]) (n6: ¬D.Mut B6) (n7: ¬D.Mut B7) (n1: ¬D.Mut B1):
  Fn1 D.Mut 107 #[] #[.pointer (some ⟨B6,0,none⟩),.pointer (some ⟨B7,0,none⟩),.pointer (some ⟨B1,0,none⟩)] N (Lp.hc k) w:=
 fun W j _ ho=>lef_any D k j B6 B7 B1 W (h.off o ho) ((b6.off ho n6).at 0 rfl) (b7.off ho n7) ((b1.off ho n1).at 0 rfl) (b6.off ho n6).lt (b1.off ho n1).lt
theorem lle_any (D:TD) (k j:Nat) (B6 B7 B1:Nat) (w:World) (h:TF D w) (c6:w.cell? ⟨B6,0,none⟩=some (.int .i64 (k:Int))) (b7:Rx w B7 [.bool (decide ((-1:Rat).num<0)),.string (nb (-1:Rat).num.natAbs),.string (nb (-1:Rat).den)]) (c1:w.cell? ⟨B1,0,none⟩=some (.pointer (some ⟨D.bt,0,none⟩))) (l6:B6<w.heap.size) (l1:B1<w.heap.size):
  Calls Tryz.prog 68 #[.int .i64 (j:Int),.pointer (some ⟨B6,0,none⟩),.pointer (some ⟨B7,0,none⟩),.pointer (some ⟨B1,0,none⟩)] w fun e w'=>e= .returned (rv (Lp.hc k j))∧Below w.heap.size w w':=by
 have HC:Hid (∀W,Below w.heap.size w W→W.cell? ⟨D.bt,10,none⟩=some (.bool (decide ((0:Rat).num<0)))∧W.cell? ⟨D.bt,11,none⟩=some (.string (nb (0:Rat).num.natAbs))∧W.cell? ⟨D.bt,12,none⟩=some (.string (nb (0:Rat).den))):=Lib.hid (fun W hb=>⟨h.c hb 10 rfl,h.c hb 11 rfl,h.c hb 12 rfl⟩);clear h
 by_cases e:j=k
 ·subst e
  rw[show Lp.hc j j= -1 from if_pos rfl];clear HC;unfold rv;generalize (-1:Rat)=x at*
  go_enter Tryz.func68,Tryz.ntmps68
  have⟨bR,ag⟩:=opn1 w [.bool false,.string ⟨#[]⟩,.string ⟨#[]⟩] 33
  go_upto_region 1 with fail
  generalize w.alloc (.cells #[.bool false,.string ⟨#[]⟩,.string ⟨#[]⟩] 33)=W0 at*;obtain⟨gR,hgR⟩: ∃g,g=w.heap.size:=⟨_,rfl⟩;rw[←hgR] at bR
  simp only[←hgR]
  have kgR:w.heap.size≤gR:=by omega
  clear hgR;replace b7:=b7.below ag;have d0:=b7.at 0 rfl;have d1:=b7.at 1 rfl;have d2:=b7.at 2 rfl;have c6:=(ag.cell (p:=⟨B6,0,none⟩) l6).trans c6;have⟨cgR0,fgR0,cgR1,fgR1,cgR2,fgR2⟩:=bR.all3
  go_wp2_with fail
  refine bodyPost_ret (v:=.agg #[.bool (decide (x.num<0)),.string (nb x.num.natAbs),.string (nb x.den)]) (by simp[results,Tryz.results68,go_sem,cgR0,cgR1,cgR2]) rfl ⟨rfl,(((ag.setCell kgR _).setCell kgR _).setCell kgR _)⟩
 ·rw[show Lp.hc k j=0 from if_neg e]
  have hne: ¬(j:Int)=(k:Int):=by omega
  clear b7;unfold rv;generalize D.bt=bt at*
  go_enter Tryz.func68,Tryz.ntmps68
  have⟨bR,ag⟩:=opn1 w [.bool false,.string ⟨#[]⟩,.string ⟨#[]⟩] 33
  go_upto_region 1 with fail
  generalize w.alloc (.cells #[.bool false,.string ⟨#[]⟩,.string ⟨#[]⟩] 33)=W0 at*;obtain⟨gR,hgR⟩: ∃g,g=w.heap.size:=⟨_,rfl⟩;rw[←hgR] at bR
  simp only[←hgR]
  have kgR:w.heap.size≤gR:=by omega
  clear hgR;obtain⟨c0,c1',c2⟩:=HC.out _ ag;have c6:=(ag.cell (p:=⟨B6,0,none⟩) l6).trans c6;have c1:=(ag.cell (p:=⟨B1,0,none⟩) l1).trans c1;have⟨cgR0,fgR0,cgR1,fgR1,cgR2,fgR2⟩:=bR.all3
  go_wp2_with fail
  refine bodyPost_ret (v:=.agg #[.bool (decide ((0:Rat).num<0)),.string (nb (0:Rat).num.natAbs),.string (nb (0:Rat).den)]) (by simp[results,Tryz.results68,go_sem,cgR0,cgR1,cgR2]) rfl ⟨rfl,(((ag.setCell kgR _).setCell kgR _).setCell kgR _)⟩
theorem lle_enters:Enters 68:=enters_of Tryz.func68 (by kernel_rfl) rfl
theorem lle_fn (D:TD) (o:TDo D) (k N:Nat) (B6 B7 B1:Nat) (w:World) (h:TF D w) (b6:Rx w B6 [.int .i64 (k:Int)]) (b7:Rx w B7 [.bool (decide ((-1:Rat).num<0)),.string (nb (-1:Rat).num.natAbs),.string (nb (-1:Rat).den)]) (b1:Rx w B1 [.pointer (some ⟨D.bt,0,none⟩)]) (n6: ¬D.Mut B6) (n7: ¬D.Mut B7) (n1: ¬D.Mut B1):
  Fn1 D.Mut 68 #[] #[.pointer (some ⟨B6,0,none⟩),.pointer (some ⟨B7,0,none⟩),.pointer (some ⟨B1,0,none⟩)] N (Lp.hc k) w:=
 fun W j _ ho=>lle_any D k j B6 B7 B1 W (h.off o ho) ((b6.off ho n6).at 0 rfl) (b7.off ho n7) ((b1.off ho n1).at 0 rfl) (b6.off ho n6).lt (b1.off ho n1).lt
theorem enterF_any (D:TD) (o:TDo D) (w:World) (h:TM D w (Lp.tab0 D.m D.n D.A D.B) (fun _=>false)) (fit:Fit D.m D.n D.A D.B):
  Calls Tryz.prog 74 #[.pointer (some ⟨D.bt,0,none⟩)] w fun e w'=>Off D.Mut w w'∧∃U,Lp.Ph1 D.m D.n D.A D.B U∧TM D w' U (fun _=>false)∧e= .returned (.bool (!(isBas D.m U (D.n+D.m)))):=by
 have hm:=o.hm;have hn:=o.hn;have hown: ∀k,D.Own k→k<w.heap.size:=fun k hk=>h.own_lt hk;obtain⟨av,cv,hvv,hav⟩:=o.sv;obtain⟨ck,hvk⟩:=o.sk;have hft:=h.tf;have HC:Hid (∀W,Below w.heap.size w W→W.cell? ⟨D.bt,9,none⟩=some (.slice av D.m cv)):=Lib.hid (fun W hb=>hvv▸hft.c hb 9 rfl)
 have HVs:Hid (∀W,Below w.heap.size w W→∀i,i<D.m→W.cell? ⟨D.gv,i*3,none⟩=some (.bool (decide ((D.B i).num<0)))∧W.cell? ⟨D.gv,i*3+1,none⟩=some (.string (nb (D.B i).num.natAbs))∧W.cell? ⟨D.gv,i*3+1+1,none⟩=some (.string (nb (D.B i).den))):=Lib.hid (fun W hb i hi=>((h.below hb).vals (by omega)).2 i hi)
 have HT0:=Lib.hid h;have HOwn:=Lib.hid hown
 have HCmp:Hid (∀i k,i<D.m→k<D.m→∀W,_):=Lib.hid (fun i k hi hk W=>acmp_any (D.B i) (D.B k) W ((fit.r i hi).mono (by decide)) ((fit.r k hk).mono (by decide)))
 have hav2: ∀i,i<D.m→av=some ⟨D.gv,0,none⟩:=fun i hi=>hav (by omega)
 clear h hav hft hvv hown
 go_enter Tryz.func74,Tryz.ntmps74
 have⟨bT,ag⟩:=opn1 w [.pointer (some ⟨D.bt,0,none⟩)] 72
 go_upto_region 2 with fail
 generalize w.alloc (.cells #[.pointer (some ⟨D.bt,0,none⟩)] 72)=W0 at*;obtain⟨gT,hgT⟩: ∃g,g=w.heap.size:=⟨_,rfl⟩;rw[←hgT] at bT
 simp only[←hgT]
 have kgT:w.heap.size≤gT:=by omega
 clear hgT;have s9:=HC.out _ ag;have⟨cT0,fT0⟩:=bT.all1
 go_wp2_with fail
 clear s9;clear cT0 fT0
 go_loopw [3,13] (fun b i wr=> ∃k:Nat,k≤D.m∧i= .int .i64 k∧((b= .int .i64 (-1)∧∀x,x<k→0≤D.B x)∨∃r:Nat,b= .int .i64 (r:Int)∧LowT D.B k r)∧Rx wr gT [.pointer (some ⟨D.bt,0,none⟩)]∧Below w.heap.size w wr) (fun _ i _=>D.m-(intOf i).toNat)
 case atStart=>exact⟨0,by omega,rfl,.inl ⟨rfl,fun x hx=>absurd hx (by omega)⟩,bT,ag⟩
 case round=>
  clear ag bT;obtain⟨k,hk,rfl,hcase,bT,ag⟩:=hrel
  by_cases hlt:k<D.m
  ·have hk0:(0:Int)≤(k:Int):=by omega
   have hk1:(k:Int)<(D.m:Int):=by omega
   obtain rfl:=hav2 k hlt;obtain⟨c0,c1,c2⟩:=HVs.out _ ag k hlt
   have HX:Hid (D.B k<0↔decide ((D.B k).num<0)=true):=Lib.hid (by rw[decide_eq_true_iff,num_lt])
   have HXB:Hid (D.B k=D.B k):=Lib.hid rfl;have kgE:=ag.size;replace ag:=ag.alloc ag.size (.cells #[.bool (decide ((D.B k).num<0)),.string (nb (D.B k).num.natAbs),.string (nb (D.B k).den)] 33);have dgT:=bT.lt;replace bT:=bT.alloc (.cells #[.bool (decide ((D.B k).num<0)),.string (nb (D.B k).num.natAbs),.string (nb (D.B k).den)] 33);have bE:Rx (wr.alloc (.cells #[.bool (decide ((D.B k).num<0)),.string (nb (D.B k).num.natAbs),.string (nb (D.B k).den)] 33)) wr.heap.size [.bool (decide ((D.B k).num<0)),.string (nb (D.B k).num.natAbs),.string (nb (D.B k).den)]:=Rx.new wr _ rfl [.bool (decide ((D.B k).num<0)),.string (nb (D.B k).num.natAbs),.string (nb (D.B k).den)] 33
   go_upto_region 5 with fail
   generalize wr.heap.size=gE at*;generalize wr.alloc (.cells #[.bool (decide ((D.B k).num<0)),.string (nb (D.B k).num.natAbs),.string (nb (D.B k).den)] 33)=WgE at*
   have ngTgE:gT≠gE:=by omega
   clear dgT;clear c0 c1 c2
   cases hd:decide ((D.B k).num<0) with
   | false=>
    rw[hd] at bE HX
    have hx:0≤D.B k:=Rat.not_lt.1 (fun h=>by have:=HX.out.1 h;cases this)
    clear hd HX HXB;have hcase2:=hcase;clear hcase
    rcases hcase2 with⟨rfl,hN⟩|⟨r,rfl,hL⟩
    ·skip
     replace ag:=ag.drew;replace bT:=bT.drew;replace bE:=bE.drew
     refine wp_schH (S:=(fun w'=>w'.cell? ⟨gE,0,none⟩=some (.bool false))) (ps 0 3 (ks 3 14 (.p 17 .e))) [5,3,1] fun A WD hA aq=>?_
     simp only[←aq.out] at ag bT bE
     clear aq
     refine⟨?_,fun ap=>?_⟩
     ·try dsimp only
      with_reducible exact bE.at 0 rfl
     repeat first|(refine isP ?_;refine tkO ?_)|(refine isK ?_;refine skO ?_)
     refine enO hA ?_
     clear hA
     go_wp2_with fail
     go_roundw
     case rel=>exact⟨k+1,by omega,by go_num,.inl ⟨rfl,fun x hx=>by
       by_cases e:x=k
       ·rw[e];assumption
       ·exact hN x (by omega)⟩,bT,ag⟩
     case measure=>simp[intOf];omega
    ·skip
     replace ag:=ag.drew;replace bT:=bT.drew;replace bE:=bE.drew
     refine wp_schH (S:=(fun w'=>w'.cell? ⟨gE,0,none⟩=some (.bool false))) (ps 0 3 (ks 3 14 (.p 17 .e))) [5,3,1] fun A WD hA aq=>?_
     simp only[←aq.out] at ag bT bE
     clear aq
     refine⟨?_,fun ap=>?_⟩
     ·try dsimp only
      with_reducible exact bE.at 0 rfl
     repeat first|(refine isP ?_;refine tkO ?_)|(refine isK ?_;refine skO ?_)
     refine enO hA ?_
     clear hA
     go_wp2_with fail
     go_roundw
     case rel=>exact⟨k+1,by omega,by go_num,.inr ⟨r,rfl,hL.skip (Rat.le_trans (Rat.le_of_lt hL.neg) (by assumption))⟩,bT,ag⟩
     case measure=>simp[intOf];omega
   | true=>
    rw[hd] at bE HX;have hx:D.B k<0:=HX.out.2 rfl;clear hd HX HXB;have hcase2:=hcase;clear hcase
    rcases hcase2 with⟨rfl,hN⟩|⟨r,rfl,hL⟩
    ·have hNew:=Lib.hid (LowT.new hN hx)
     clear hN hx;replace ag:=ag.drew;replace bT:=bT.drew;replace bE:=bE.drew
     refine wp_schH (S:=(fun w'=>w'.cell? ⟨gE,0,none⟩=some (.bool true))) (ps 0 6 (ks 6 10 (ps 16 2 .e))) [5,3,1] fun A WD hA aq=>?_
     simp only[←aq.out] at ag bT bE
     clear aq
     refine⟨?_,fun ap=>?_⟩
     ·try dsimp only
      with_reducible exact bE.at 0 rfl
     repeat first|(refine isP ?_;refine tkO ?_)|(refine isK ?_;refine skO ?_)
     refine enO hA ?_
     clear hA
     go_wp2_with fail
     go_roundw
     case rel=>exact⟨k+1,by omega,by go_num,.inr ⟨k,rfl,hNew.out⟩,bT,ag⟩
     case measure=>simp[intOf];omega
    ·have hr0:(0:Int)≤(r:Int):=by omega
     have hr2: ¬(r:Int)<0:=by omega
     have hrm:r<D.m:=by have:=hL.lt;omega
     have hr1:(r:Int)<(D.m:Int):=by omega
     have HCk:=Lib.hid (HCmp.out k r hlt hrm);have HVr:=Lib.hid (fun W hb=>HVs.out W hb r hrm);have HNew:=Lib.hid (fun h=>hL.swap (t:=k) h);have HOld:=Lib.hid (fun h=>hL.skip (t:=k) h);have hkx:decide ((D.B k).num<0)=true:=decide_eq_true (num_lt.2 hx)
     simp only[rv,hkx] at HCk
     clear hL hx hkx;generalize hbk:D.B k=xk at*;have HBk:=Lib.hid hbk;generalize hbr:D.B r=xr at*;have HBr:=Lib.hid hbr;clear hbk hbr
     rcases Rq.sgn_cases (xk-xr) with hc|hc|hc
     ·rw[hc] at HCk
      have hlt2:=Lib.hid (show xk<xr by have:=Rq.sgn_lt.1 hc;grind)
      clear hc;replace ag:=ag.drew;replace bT:=bT.drew;replace bE:=bE.drew
      refine wp_schH (S:=(fun w'=>w'.cell? ⟨gE,0,none⟩=some (.bool true)∧w'.cell? ⟨gE,1,none⟩=some (.string (nb xk.num.natAbs))∧w'.cell? ⟨gE,2,none⟩=some (.string (nb xk.den))∧w'.cell? ⟨gT,0,none⟩=some (.pointer (some ⟨D.bt,0,none⟩))∧w'.cell? ⟨D.bt,9,none⟩=some (.slice (some ⟨D.gv,0,none⟩) D.m cv)∧w'.cell? ⟨D.gv,r*3,none⟩=some (.bool (decide (xr.num<0)))∧w'.cell? ⟨D.gv,r*3+1,none⟩=some (.string (nb xr.num.natAbs))∧w'.cell? ⟨D.gv,r*3+1+1,none⟩=some (.string (nb xr.den)))) (ps 0 14 (.c 14 (ps 15 3 .e))) [5,3,1] fun A WD hA aq=>?_
      simp only[←aq.out] at ag bT bE
      clear aq
      refine⟨?_,fun ap=>?_⟩
      ·try dsimp only
       with_reducible exact⟨bE.at 0 rfl,bE.at 1 rfl,bE.at 2 rfl,bT.at 0 rfl,HC.out _ ag,(HVr.out _ ag).1,(HVr.out _ ag).2.1,(HVr.out _ ag).2.2⟩
      repeat(refine isP ?_;refine tkO ?_)
      refine caO (HCk.out _) fun e wZ hz=>?_
      obtain⟨rfl,am⟩:=hz;replace ag:=ag.tr am;replace bT:=bT.below am;replace bE:=bE.below am;clear am
      refine⟨_,rfl,?_,?_⟩
      ·try dsimp only
       with_reducible exact⟨bE.at 0 rfl,bE.at 1 rfl,bE.at 2 rfl,bT.at 0 rfl,HC.out _ ag,(HVr.out _ ag).1,(HVr.out _ ag).2.1,(HVr.out _ ag).2.2⟩
      repeat(refine isP ?_;refine tkO ?_)
      refine enO hA ?_
      clear hA
      go_wp2_with fail
      go_roundw
      case rel=>exact⟨k+1,by omega,by go_num,.inr ⟨k,rfl,HNew.out hlt2.out⟩,bT,ag⟩
      case measure=>simp[intOf];omega
     ·rw[hc] at HCk
      have hge2:=Lib.hid (show xr≤xk by have:=Rq.sgn_zero.1 hc;grind)
      clear hc;replace ag:=ag.drew;replace bT:=bT.drew;replace bE:=bE.drew
      refine wp_schH (S:=(fun w'=>w'.cell? ⟨gE,0,none⟩=some (.bool true)∧w'.cell? ⟨gE,1,none⟩=some (.string (nb xk.num.natAbs))∧w'.cell? ⟨gE,2,none⟩=some (.string (nb xk.den))∧w'.cell? ⟨gT,0,none⟩=some (.pointer (some ⟨D.bt,0,none⟩))∧w'.cell? ⟨D.bt,9,none⟩=some (.slice (some ⟨D.gv,0,none⟩) D.m cv)∧w'.cell? ⟨D.gv,r*3,none⟩=some (.bool (decide (xr.num<0)))∧w'.cell? ⟨D.gv,r*3+1,none⟩=some (.string (nb xr.num.natAbs))∧w'.cell? ⟨D.gv,r*3+1+1,none⟩=some (.string (nb xr.den)))) (ps 0 14 (.c 14 (ps 15 3 .e))) [5,3,1] fun A WD hA aq=>?_
      simp only[←aq.out] at ag bT bE
      clear aq
      refine⟨?_,fun ap=>?_⟩
      ·try dsimp only
       with_reducible exact⟨bE.at 0 rfl,bE.at 1 rfl,bE.at 2 rfl,bT.at 0 rfl,HC.out _ ag,(HVr.out _ ag).1,(HVr.out _ ag).2.1,(HVr.out _ ag).2.2⟩
      repeat(refine isP ?_;refine tkO ?_)
      refine caO (HCk.out _) fun e wZ hz=>?_
      obtain⟨rfl,am⟩:=hz;replace ag:=ag.tr am;replace bT:=bT.below am;replace bE:=bE.below am;clear am
      refine⟨_,rfl,?_,?_⟩
      ·try dsimp only
       with_reducible exact⟨bE.at 0 rfl,bE.at 1 rfl,bE.at 2 rfl,bT.at 0 rfl,HC.out _ ag,(HVr.out _ ag).1,(HVr.out _ ag).2.1,(HVr.out _ ag).2.2⟩
      repeat(refine isP ?_;refine tkO ?_)
      refine enO hA ?_
      clear hA
      go_wp2_with fail
      go_roundw
      case rel=>exact⟨k+1,by omega,by go_num,.inr ⟨r,rfl,HOld.out hge2.out⟩,bT,ag⟩
      case measure=>simp[intOf];omega
     ·rw[hc] at HCk
      have hge2:=Lib.hid (show xr≤xk by have:=Rq.sgn_gt.1 hc;grind)
      clear hc;replace ag:=ag.drew;replace bT:=bT.drew;replace bE:=bE.drew
      refine wp_schH (S:=(fun w'=>w'.cell? ⟨gE,0,none⟩=some (.bool true)∧w'.cell? ⟨gE,1,none⟩=some (.string (nb xk.num.natAbs))∧w'.cell? ⟨gE,2,none⟩=some (.string (nb xk.den))∧w'.cell? ⟨gT,0,none⟩=some (.pointer (some ⟨D.bt,0,none⟩))∧w'.cell? ⟨D.bt,9,none⟩=some (.slice (some ⟨D.gv,0,none⟩) D.m cv)∧w'.cell? ⟨D.gv,r*3,none⟩=some (.bool (decide (xr.num<0)))∧w'.cell? ⟨D.gv,r*3+1,none⟩=some (.string (nb xr.num.natAbs))∧w'.cell? ⟨D.gv,r*3+1+1,none⟩=some (.string (nb xr.den)))) (ps 0 14 (.c 14 (ps 15 3 .e))) [5,3,1] fun A WD hA aq=>?_
      simp only[←aq.out] at ag bT bE
      clear aq
      refine⟨?_,fun ap=>?_⟩
      ·try dsimp only
       with_reducible exact⟨bE.at 0 rfl,bE.at 1 rfl,bE.at 2 rfl,bT.at 0 rfl,HC.out _ ag,(HVr.out _ ag).1,(HVr.out _ ag).2.1,(HVr.out _ ag).2.2⟩
      repeat(refine isP ?_;refine tkO ?_)
      refine caO (HCk.out _) fun e wZ hz=>?_
      obtain⟨rfl,am⟩:=hz;replace ag:=ag.tr am;replace bT:=bT.below am;replace bE:=bE.below am;clear am
      refine⟨_,rfl,?_,?_⟩
      ·try dsimp only
       with_reducible exact⟨bE.at 0 rfl,bE.at 1 rfl,bE.at 2 rfl,bT.at 0 rfl,HC.out _ ag,(HVr.out _ ag).1,(HVr.out _ ag).2.1,(HVr.out _ ag).2.2⟩
      repeat(refine isP ?_;refine tkO ?_)
      refine enO hA ?_
      clear hA
      go_wp2_with fail
      go_roundw
      case rel=>exact⟨k+1,by omega,by go_num,.inr ⟨r,rfl,HOld.out hge2.out⟩,bT,ag⟩
      case measure=>simp[intOf];omega
  ·obtain rfl:k=D.m:=by omega
   clear HCmp hav2 HVs HC
   rcases hcase with⟨rfl,hN⟩|⟨r,rfl,hL⟩
   ·go_wp2_with fail
    go_ret
    refine⟨off_of ag,_,.none hN,HT0.out.below ag,?_⟩
    rw[show isBas D.m (Lp.tab0 D.m D.n D.A D.B) (D.n+D.m)=false from by
     rw[←Bool.not_eq_true,isBas_iff];rintro ⟨i,hi,e⟩;have e:D.n+i=D.n+D.m:=e
     omega]
    rfl
   ·skip
    have hlow:Lp.Low D.m D.B r:=⟨hL.lt,hL.neg,hL.min,hL.first⟩;clear hL
    have hr2: ¬(r:Int)<0:=by omega
    have hHp:Hid (∀W,Below w.heap.size w W→Calls Tryz.prog 106 #[.pointer (some ⟨D.bt,0,none⟩)] W fun e w'=>e= .returned (.int .i64 ((D.n:Int)+(D.m:Int)))∧Below W.heap.size W w'):=Lib.hid (fun W hb=>helper_any D o W (HT0.out.below hb).tf)
    have e0: ∀i,(Lp.tab0 D.m D.n D.A D.B).a i (D.n+D.m)= -1:=fun i=>by show Lp.mat D.m D.n D.A i (D.n+D.m)= -1;unfold Lp.mat;rw[if_neg (by omega),if_pos rfl]
    have hwb:=Lp.Way.begin' (n:=D.n) (A:=D.A) hlow;have sT: ∀i k,i<D.m→k<D.m→Sz ((Lp.tab0 D.m D.n D.A D.B).a i (D.n+k)) 40000:=fun i k hi _=>fit.t i _ hi
    have HDir:Hid (∀W,Below w.heap.size w W→Calls Tryz.prog 101 #[.pointer (some ⟨D.bt,0,none⟩),.int .i64 ((D.n:Int)+(D.m:Int))] W fun e w'=> ∃g,e= .returned (.slice (some ⟨g,0,none⟩) D.m D.m)∧W.heap.size≤g∧RowF w' g D.m (fun i=>(Lp.tab0 D.m D.n D.A D.B).a i (D.n+D.m))∧Below W.heap.size W w'):=Lib.hid (fun W hb=>(direction_any D o (Lp.tab0 D.m D.n D.A D.B) (fun _=>false) (D.n+D.m) W (HT0.out.below hb) (fun i k hi=>fit.t i k hi) sT).mono (by
     rintro e w' ⟨g,h1,h2,h3,h4⟩
     exact⟨g,h1,h2,h3.congr (fun i hi=>Lp.tab0_src.a i (D.n+D.m) hi),h4⟩))
    have HPiv:Hid (∀W gd,Below w.heap.size w W→RowF W gd D.m (fun i=>(Lp.tab0 D.m D.n D.A D.B).a i (D.n+D.m))→¬D.Mut gd→Calls Tryz.prog 103 #[.pointer (some ⟨D.bt,0,none⟩),.int .i64 (r:Int),.int .i64 ((D.n:Int)+(D.m:Int)),.slice (some ⟨gd,0,none⟩) D.m D.m] W fun e w'=>(∃v,e= .returned v)∧Off D.Mut W w'∧TM D w' (Lp.pivot (Lp.tab0 D.m D.n D.A D.B) r (D.n+D.m)) (fun _=>false)):=Lib.hid (fun W gd hb hrow hgd=>pivot_any D o (Lp.tab0 D.m D.n D.A D.B) (fun _=>false) r (D.n+D.m) gd W (HT0.out.below hb) hlow.lt (by omega) hrow hgd (fun i k hi hk e=>Lp.tab0_inv.inj hi hk e) Lp.tab0_inv.bas (fun⟨i,hi,e⟩=>by have e:D.n+i=D.n+D.m:=e;omega) (by rw[e0];decide) sT fit.r (fun i hi=>fit.t i _ hi))
    have⟨cT0,fT0⟩:=bT.all1
    go_wp2_with fail
    clear cT0 fT0
    with_reducible refine(hHp.out _ ag).mono ?_
    rintro e wZ ⟨rfl,am⟩;replace ag:=ag.tr am;replace bT:=bT.below am;clear am;clear hHp;have kgH:=ag.size;replace ag:=ag.alloc ag.size (.cells #[.int .i64 ((D.n:Int)+(D.m:Int))] 3);have dgT:=bT.lt;replace bT:=bT.alloc (.cells #[.int .i64 ((D.n:Int)+(D.m:Int))] 3);have bH:Rx (wZ.alloc (.cells #[.int .i64 ((D.n:Int)+(D.m:Int))] 3)) wZ.heap.size [.int .i64 ((D.n:Int)+(D.m:Int))]:=Rx.new wZ _ rfl [.int .i64 ((D.n:Int)+(D.m:Int))] 3
    go_upto_region 11 with fail
    generalize wZ.heap.size=gH at*;generalize wZ.alloc (.cells #[.int .i64 ((D.n:Int)+(D.m:Int))] 3)=WgH at*
    have ngTgH:gT≠gH:=by omega
    clear dgT
    go_cut [47,48] (fun _ _ wx=>Off D.Mut w wx∧TM D wx (Lp.pivot (Lp.tab0 D.m D.n D.A D.B) r (D.n+D.m)) (fun _=>false)∧w.heap.size≤gT∧w.heap.size≤gH∧Rx wx gT [.pointer (some ⟨D.bt,0,none⟩)]∧Rx wx gH [.int .i64 ((D.n:Int)+(D.m:Int))])
    case first=>
     replace ag:=ag.drew;replace bT:=bT.drew;replace bH:=bH.drew
     refine wp_schH (S:=(fun w'=>w'.cell? ⟨gT,0,none⟩=some (.pointer (some ⟨D.bt,0,none⟩))∧w'.cell? ⟨gH,0,none⟩=some (.int .i64 ((D.n:Int)+(D.m:Int))))) (ps 0 5 (.c 5 (.c 6 .e))) [1,3,6] fun A WD hA aq=>?_
     simp only[←aq.out] at ag bT bH
     clear aq
     refine⟨?_,fun ap=>?_⟩
     ·try dsimp only
      with_reducible exact⟨bT.at 0 rfl,bH.at 0 rfl⟩
     repeat(refine isP ?_;refine tkO ?_)
     refine acO fun aa KK hF hK=>?_
     dsimp only[Fa] at hF
     go_simp
     have hs0:=ag.size
     with_reducible refine(HDir.out _ ag).mono ?_
     rintro e wZ ⟨gd,rfl,hgd,hrow,am⟩;replace ag:=ag.tr am;replace bT:=bT.below am;replace bH:=bH.below am;clear am
     have hgm: ¬D.Mut gd:=fun hm=>by have:=HOwn.out gd (TD.own_mut hm);omega
     clear hs0 hgd
     (first|refine hK.out _ _ ?_ (fun ap=>?_)|(go_wp2_with fail;refine hK.out _ _ ?_ (fun ap=>?_)))
     ·try dsimp only
      with_reducible exact⟨bT.at 0 rfl,bH.at 0 rfl⟩
     clear hK KK hF aa
     refine acO fun aa KK hF hK=>?_
     dsimp only[Fa] at hF
     go_simp
     with_reducible refine(HPiv.out _ gd ag hrow hgm).mono ?_
     rintro e wZ ⟨⟨v,rfl⟩,hoP,hTP⟩;have hoff:=(off_of ag).trans hoP;clear ag hrow
     replace bT:=bT.off hoP (fun hm=>by have:=HOwn.out gT (TD.own_mut hm);omega)
     replace bH:=bH.off hoP (fun hm=>by have:=HOwn.out gH (TD.own_mut hm);omega)
     clear hoP
     (first|refine hK.out _ _ ?_ (fun ap=>?_)|(go_wp2_with fail;refine hK.out _ _ ?_ (fun ap=>?_)))
     ·try dsimp only
      with_reducible exact⟨bT.at 0 rfl,bH.at 0 rfl⟩
     clear hK KK hF aa
     refine enO hA ?_
     clear hA
     go_wp2_with fail
     go_meet
     exact⟨hoff,hTP,kgT,kgH,bT,bH⟩
    case rest=>
     clear bT bH ag HDir HPiv HT0 sT e0;obtain⟨hoff,hTP,kgT,kgH,bT,bH⟩:=hcut;have ag:=Below.refl wc.heap.size wc;obtain⟨x1,hx1⟩: ∃x:Rat,x= -1:=⟨_,rfl⟩;have HX1:=Lib.hid hx1
     have HOf:Hid (∀W,Calls Tryz.prog 67 #[.int .i64 (-1)] W fun e w'=>e= .returned (rv x1)∧Below W.heap.size W w'):=Lib.hid (fun W=>by
      have:=aof_any (-1) W (by decide) (by decide)
      rw[hx1]
      rwa [show(((-1:Int)):Rat)= -1 from rfl] at this)
     clear hx1
     simp only[rv] at HOf
     go_wp2_with fail
     with_reducible refine(HOf.out _).mono ?_
     rintro e wZ ⟨rfl,am⟩;replace ag:=ag.tr am;replace bT:=bT.below am;replace bH:=bH.below am;clear am;have kgM:=ag.size;replace ag:=ag.alloc ag.size (.cells #[.bool (decide (x1.num<0)),.string (nb x1.num.natAbs),.string (nb x1.den)] 33);have dgT:=bT.lt;have dgH:=bH.lt;replace bT:=bT.alloc (.cells #[.bool (decide (x1.num<0)),.string (nb x1.num.natAbs),.string (nb x1.den)] 33)
     replace bH:=bH.alloc (.cells #[.bool (decide (x1.num<0)),.string (nb x1.num.natAbs),.string (nb x1.den)] 33);have bM:Rx (wZ.alloc (.cells #[.bool (decide (x1.num<0)),.string (nb x1.num.natAbs),.string (nb x1.den)] 33)) wZ.heap.size [.bool (decide (x1.num<0)),.string (nb x1.num.natAbs),.string (nb x1.den)]:=Rx.new wZ _ rfl [.bool (decide (x1.num<0)),.string (nb x1.num.natAbs),.string (nb x1.den)] 33
     go_upto_region 13 with fail
     generalize wZ.heap.size=gM at*;generalize wZ.alloc (.cells #[.bool (decide (x1.num<0)),.string (nb x1.num.natAbs),.string (nb x1.den)] 33)=WgM at*
     have ngTgM:gT≠gM:=by omega
     have ngHgM:gH≠gM:=by omega
     clear dgT dgH;have hs1:=hoff.size
     have hcl:=Lib.hid (climb_any D o _ (fun _=>false) 107 #[] #[.pointer (some ⟨gH,0,none⟩),.pointer (some ⟨gM,0,none⟩),.pointer (some ⟨gT,0,none⟩)] (Lp.hc (D.n+D.m)) WgM (hTP.below ag) hwb.1 lef_enters (lef_fn D o (D.n+D.m) _ gH gM gT WgM (hTP.below ag).tf bH (by have:=bM;rw[HX1.out] at this;exact this) bT (fun hm=>by have:=HOwn.out gH (TD.own_mut hm);omega) (fun hm=>by have:=HOwn.out gM (TD.own_mut hm);omega) (fun hm=>by have:=HOwn.out gT (TD.own_mut hm);omega)) (fit.hc _).s (fun i k hi=>fit.t i k hi) (fun k U hk=>fit.szT (fit.hc _) (hwb.1.climb hk)))
     have⟨cT0,fT0⟩:=bT.all1
     go_wp2_with fail
     clear cT0 fT0
     with_reducible refine hcl.out.mono ?_
     rintro e wZ ⟨hoC,kk,U,hck,hTU,hres⟩;clear hcl
     replace bT:=bT.off hoC (fun hm=>by have:=HOwn.out gT (TD.own_mut hm);omega)
     replace bH:=bH.off hoC (fun hm=>by have:=HOwn.out gH (TD.own_mut hm);omega)
     replace hoff:=(hoff.step ag).trans hoC;clear bM ag hoC
     have hE:Lp.End D.m (D.n+D.m+1) (Alw D (fun _=>false)) (Lp.hc (D.n+D.m)) U:=by
      rcases hres with⟨_,hE⟩|⟨_,s,hF⟩
      ·exact hE
      ·obtain⟨i,hi,_,hp⟩:=Lp.hc_limit (hwb.1.climb hck).inv hF.cs
       exact absurd (hF.no i hi) (Rat.not_le.2 hp)
     have hret: ∃b,e= .returned (.bool b):=by rcases hres with⟨h,_⟩|⟨h,_⟩<;>exact⟨_,h⟩
     obtain⟨b,rfl⟩:=hret;unfold Clb at hck;rw[alw_none] at hck hE;have hPh:Lp.Ph1 D.m D.n D.A D.B U:=.some hlow hck hE;clear hres hck hE hwb hlow hr2 hTP
     have hi0:(0:Int)≤(D.n:Int)+(D.m:Int):=by omega
     have hi1:(D.n:Int)+(D.m:Int)<(D.n:Int)+(D.m:Int)+1:=by omega
     have hi2:((D.n:Int)+(D.m:Int)).toNat=D.n+D.m:=by omega
     have ag:=Below.refl wZ.heap.size wZ
     have HK14:Hid (∀W,Below wZ.heap.size wZ W→W.cell? ⟨D.bt,6,none⟩=some (.slice (some ⟨D.gk,0,none⟩) (D.n+D.m+1) ck)∧W.cell? ⟨D.gk,D.n+D.m,none⟩=some (.bool (isBas D.m U (D.n+D.m)))):=Lib.hid (fun W hb=>⟨by have q6:=(hTU.below hb).fix.at 6 rfl;rw[hvk] at q6;exact q6,(hTU.below hb).basic.2 (D.n+D.m) (by omega)⟩)
     have HU:=Lib.hid hTU;clear hTU
     go_upto_region 14 with fail
     replace ag:=ag.drew;replace bT:=bT.drew;replace bH:=bH.drew
     refine wp_schH (S:=(fun w'=>w'.cell? ⟨gT,0,none⟩=some (.pointer (some ⟨D.bt,0,none⟩))∧w'.cell? ⟨gH,0,none⟩=some (.int .i64 ((D.n:Int)+(D.m:Int)))∧w'.cell? ⟨D.bt,6,none⟩=some (.slice (some ⟨D.gk,0,none⟩) (D.n+D.m+1) ck)∧w'.cell? ⟨D.gk,D.n+D.m,none⟩=some (.bool (isBas D.m U (D.n+D.m))))) (ps 0 9 .e) [1,6] fun A WD hA aq=>?_
     simp only[←aq.out] at ag bT bH
     clear aq
     refine⟨?_,fun ap=>?_⟩
     ·try dsimp only
      with_reducible exact⟨bT.at 0 rfl,bH.at 0 rfl,(HK14.out _ ag).1,(HK14.out _ ag).2⟩
     repeat(refine isP ?_;refine tkO ?_)
     refine enO hA ?_
     clear hA
     go_wp2_with fail
     go_ret
     exact⟨hoff.step ag,U,hPh,HU.out.below ag,rfl⟩
end Go.Proofs.YtinmmkcjjlconaaGreat
