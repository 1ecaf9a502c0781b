/- Parts of the proofs about this seat's statements. -/
import Derived.Test.YtinmmkcjjlconaaGreatL1w
set_option maxRecDepth 100000
set_option maxHeartbeats 16000000
namespace Go.Proofs.YtinmmkcjjlconaaGreat
open Go.RowKit W
open Pl (nb bv bv_nb nb_size_zero)
open Lp (S S_succ Cert Out Unb)
structure SolvR (m n:Nat) (A:Nat→Nat→Rat) (B C:Nat→Rat) (k:Nat) (w:World) (e:Ending) (w':World):Prop where
  ex :Below w.heap.size w w'∧Out m n A B C k∧
    ((k=0∧∃ax cx ay cy X Y v,e= .returned (.tuple #[.agg #[.slice ax n cx,.slice ay m cy,.bool (decide (v.num<0)),.string (nb v.num.natAbs),.string (nb v.den)],.int .i64 0])∧Cert m n A B C X Y v∧SlR w' (.slice ax n cx) n X∧SlR w' (.slice ay m cy) m Y∧(∀K,8≤K→SzV m n A B C K→(∀j,j<n→Sz (X j) K)∧(∀i,i<m→Sz (Y i) K)∧Sz v K))∨
     (k=1∧e= .returned (.tuple #[solZ,.int .i64 16]))∨(k=2∧e= .returned (.tuple #[solZ,.int .i64 40])))
theorem updL2 {M k:Nat} {F:Nat→Rat} {p q:Rat} {v:Value} {t:Thing} (h:t=listT v (raws M (upd (upd F k p) k q))):t=listT v (raws M (upd F k q)):=h.trans (by
 congr 1
 refine raws_congr fun j _=>?_
 unfold upd
 split<;>rfl)
theorem rsolve_any (m n:Nat) (A:Nat→Nat→Rat) (B C:Nat→Rat) (a0 a1 a2:Option Addr) (c0 c1 c2:Nat) (w:World) (h:PR w (.agg #[.slice a0 m c0,.slice a1 m c1,.slice a2 n c2]) m n A B C) (ft:Fits m n A B C) (fr:FitR m n A B C):
  Calls Tryz.prog 15 #[.agg #[.slice a0 m c0,.slice a1 m c1,.slice a2 n c2]] w fun e w'=> ∃k,SolvR m n A B C k w e w':=by
 have hm:=ft.hm;have hn:=ft.hn
 have HR:=Lib.hid (fun W (hb:Below w.heap.size w W)=>rprog_any m n A B C a0 a1 a2 c0 c1 c2 W (h.below hb) hm (by omega) ⟨fun i j hi hj=>(ft.s.a i j hi hj).mono (by decide),fun i hi=>(ft.s.b i hi).mono (by decide),fun j hj=>(ft.s.c j hj).mono (by decide)⟩)
 have HNT:=Lib.hid (fun W (hb:Below w.heap.size w W)=>newTable_any m n A B C a0 a1 a2 c0 c1 c2 W (h.below hb) hm hn);obtain⟨_,_,hC⟩:=h.parts;have HC:=Lib.hid (fun j (hj:j<n)=>hC.get hj)
 have HBG:=Lib.hid (fun(wT W:World) (b:Nat) (h2:RT wT W b m (n+m+1) (Lp.tab0 m n A B))=>(rbegin_any wT W b m n A B h2 hm (by omega) ft.f.r (fun i j hi hj=>ft.f.row0 hi hj) (fun V hV=>⟨fun i j hi hj=>ft.f.rows hV hi hj,fr.h V hV⟩)).mono (fun e w' h=>h.ex))
 have HCL:=Lib.hid (fun(wT W:World) (b:Nat) (U:Lp.Tab) (h2:RT wT W b m (n+m+1) (Lp.wc m U (Lp.cst n C))) (hw:Lp.Way m n A B U)=>rclimb_any wT W b m (n+m+1) (n+m) U (Lp.cst n C) h2 (by omega) hm (by omega) hw.inv hw.pos (fun k V hk=>⟨fun i j hi hj=>ft.f.rows (hw.climbId hk) hi hj,fr.c V (hw.climbId hk)⟩))
 have HG: ∀j,j≤n+m+1→Sz (Lp.cst n C j) 40000:=fun j hj=>by
  unfold Lp.cst
  split
  ·next h=>exact ft.s.c j h
  ·exact Sz_zero.mono (by decide)
 have HLs:=Lib.hid (fun(U:Lp.Tab) (hw:Lp.Way m n A B U) (i:Nat) (hi:i<m) a b d e W h1 h2=>less_any (n+m+1+1) (costP (n+m+1) U (Lp.cst n C) i) (rowF (n+m+1) U i) (costP (n+m+1) U (Lp.cst n C) i (U.bas i)) a b d e W h1 h2 (by omega) (fun j hj=>costP_Sz hm hw.inv HG (fun i j hi hj=>ft.f.rows hw hi hj) (Nat.le_of_lt hi) (by omega)) (fun j hj=>(ft.f.rows hw hi (by omega)).mono (by decide)) (by rw[costP_bas hw.inv hi];exact(HG _ (Nat.le_of_lt (hw.inv.bas i hi))).mono (by decide)))
 have HFC:=Lib.hid (fun(V:Lp.Tab) (hw:Lp.Way m n A B V)=>fr.c V hw);obtain⟨q0,hq0⟩: ∃q:Rat,q=0:=⟨_,rfl⟩
 have HZ:Hid (∀W,Calls Tryz.prog 48 #[] W fun e w'=>e= .returned (rv q0)∧Below W.heap.size W w'):=Lib.hid (fun W=>by rw[hq0];exact rzero_any W)
 have HQ0:=Lib.hid hq0
 have HNg:=Lib.hid (fun(q:Rat) W (hq:Sz q 40000)=>rneg2_any q W (hq.mono (by decide)))
 simp only[rv] at HZ HNg HLs
 clear hq0 HG fr h hC;generalize hNe:n+m+1=N at*;generalize hHe:n+m=H at*;generalize hMe:N+1=M at*;have HNe:Hid (H+1=N):=Lib.hid hNe;have HHe:=Lib.hid hHe;have HMe:=Lib.hid hMe
 have hM9:M≤502:=by omega
 have hM0:0<M:=by omega
 have hwH:IntKind.i64.wrap ((n:Int)+(m:Int))=(H:Int):=by rw[IntKind.wrap_i64];omega
 have hwN:IntKind.i64.wrap ((H:Int)+1)=(N:Int):=by rw[IntKind.wrap_i64];omega
 clear ft hNe hHe hMe
 go_enter Tryz.func15,Tryz.ntmps15
 have⟨bP,bR,ag⟩:=opn2 w [.slice a0 m c0,.slice a1 m c1,.slice a2 n c2] [.slice none 0 0,.slice none 0 0,.bool false,.string ⟨#[]⟩,.string ⟨#[]⟩] 29 35
 go_upto_region 1 with fail
 generalize (w.alloc (.cells #[.slice a0 m c0,.slice a1 m c1,.slice a2 n c2] 29)).alloc (.cells #[.slice none 0 0,.slice none 0 0,.bool false,.string ⟨#[]⟩,.string ⟨#[]⟩] 35)=W0 at*;generalize hgR:w.heap.size+1=gR at*;obtain⟨gP,hgP⟩: ∃g,g=w.heap.size:=⟨_,rfl⟩;rw[←hgP] at bP
 simp only[←hgP]
 have ngPgR:gP≠gR:=by omega
 have kgP:w.heap.size≤gP:=by omega
 have kgR:w.heap.size≤gR:=by omega
 clear hgP hgR;have⟨cP0,fP0,cP1,fP1,cP2,fP2⟩:=bP.all3
 go_wp2_with fail
 clear cP0 fP0 cP1 fP1 cP2 fP2
 with_reducible refine(HR.out _ ag).mono ?_
 rintro e wX ⟨rfl,am⟩;clear HR;replace ag:=ag.tr am;replace bP:=bP.below am;replace bR:=bR.below am;clear am;have⟨cP0,fP0,cP1,fP1,cP2,fP2⟩:=bP.all3
 go_wp2_with fail
 clear cP0 fP0 cP1 fP1 cP2 fP2;have HbP:=Lib.hid (fun W (hb:Below wX.heap.size wX W)=>bP.below hb);have HbR:=Lib.hid (fun W (hb:Below wX.heap.size wX W)=>bR.below hb);have HB0:=Lib.hid ag;have HgR:=Lib.hid bR.lt;have HA2:=Lib.hid (fun W (hb:Below wX.heap.size wX W)=>ag.tr hb)
 with_reducible refine(HNT.out _ ag).mono ?_
 clear HNT bP bR ag;rintro e wY ⟨b,rfl,hV⟩
 go_wp2_with fail
 with_reducible refine(HBG.out _ _ _ hV).mono ?_
 clear hV HBG;rintro e wZ ⟨U,hV,hres⟩
 rcases hres with⟨rfl,hno⟩|⟨rfl,hway,hnb⟩
 ·have HNO:=Lib.hid hno
  have hacc1:=hV.acc;clear hno hV;have bR:=HbR.out _ hacc1;have ag:=HB0.out.trans (hacc1.mono HB0.out.size);have⟨cgR0,fgR0,cgR1,fgR1,cgR2,fgR2,cR3,fR3,cR4,fR4⟩:=bR.all5
  go_wp2_with fail
  clear cgR0 fgR0 cgR1 fgR1 cgR2 fgR2 cR3 fR3 cR4 fR4;replace ag:=ag.setCell (p:=⟨gR,0,none⟩) kgR (.slice none 0 0)
  replace bR:=bR.put 0 (.slice none 0 0) (by simp)
  simp only[List.set] at bR
  replace ag:=ag.setCell (p:=⟨gR,1,none⟩) kgR (.slice none 0 0)
  replace bR:=bR.put 1 (.slice none 0 0) (by simp)
  simp only[List.set] at bR
  replace ag:=ag.setCell (p:=⟨gR,2,none⟩) kgR (.bool false)
  replace bR:=bR.put 2 (.bool false) (by simp)
  simp only[List.set] at bR
  replace ag:=ag.setCell (p:=⟨gR,3,none⟩) kgR (.string ⟨#[]⟩)
  replace bR:=bR.put 3 (.string ⟨#[]⟩) (by simp)
  simp only[List.set] at bR
  replace ag:=ag.setCell (p:=⟨gR,4,none⟩) kgR (.string ⟨#[]⟩)
  replace bR:=bR.put 4 (.string ⟨#[]⟩) (by simp)
  simp only[List.set] at bR
  have⟨cgR0,fgR0,cgR1,fgR1,cgR2,fgR2,cR3,fR3,cR4,fR4⟩:=bR.all5
  refine bodyPost_ret (v:=.tuple #[solZ,.int .i64 16]) (by simp[results,Tryz.results15,solZ,go_sem,cgR0,cgR1,cgR2,cR3,cR4]) rfl ?_
  exact⟨1,⟨ag,.empty HNO.out,.inr (.inl ⟨rfl,rfl⟩)⟩⟩
 ·have HW := Lib.hid hway
  have HNB:=Lib.hid hnb;clear hway hnb;replace hV:=hV.toC;rw[←mixF_zero (g:=Lp.cst n C)] at hV;have kP:=HbP.out _ hV.acc;have k0:=kP.at 0 rfl;have k2:=kP.at 2 rfl;clear kP
  go_wp2_with fail
  clear k0 k2
  go_loopw [9] (fun s9 wr=> ∃k:Nat,k≤M∧s9= .int .i64 (k:Int)∧RTC wX wr b m N U (mixF N U (Lp.cst n C) k)) (fun s9 _=>M-(intOf s9).toNat)
  case atStart=>exact⟨0,Nat.zero_le _,rfl,hV⟩
  case round =>
   clear hV;obtain⟨k,hk,rfl,hV⟩:=hrel
   have hw1:IntKind.i64.wrap ((k:Int)+1)=(k:Int)+1:=by rw[IntKind.wrap_i64];omega
   obtain⟨ar,cr,ab,cb,gc,cc,rv_,T,hS,⟨bx,rs,bs,co,ro⟩⟩:=id hV;rw[HMe.out] at bx co ro;clear hV;have k0:=(hS.box bx).at 2 rfl
   by_cases hlt:k<M
   ·have hk0:(0:Int)≤(k:Int):=by omega
    have hk1:(k:Int)<(M:Int):=by omega
    go_upto_region 13 with fail
    clear k0;replace hS:=hS.drew
    refine wp_schH (S:=fun w'=>w'.cell? ⟨b,2,none⟩=some (.slice (some ⟨gc,0,none⟩) M cc)) (hc:=by as_aux_lemma=>kernel_rfl) (.p 0 (.p 1 (.p 2 (.p 3 (.p 4 (.c 5 (.p 6 (.c 7 .e)))))))) [5,9] fun zA WD hA aq=>?_
    simp only[←aq.out] at hS
    clear aq
    refine⟨(hS.box bx).at 2 rfl,fun hS0=>?_⟩
    repeat' first
     |((with_reducible refine isP ?_);refine tkO ?_)
     |(
      with_reducible refine isC (i:=5) ?_
      refine caO (i:=5) (HZ.out _) fun e wn hz=>?_
      obtain⟨rfl,hb⟩:=hz;replace hS:=hS.below hb;clear hb
      refine⟨_,rfl,(hS.box bx).at 2 rfl,?_⟩)
     |(
      with_reducible refine isC (i:=7) ?_
      refine stL (i:=7) (x:=3) (j:=k) q0 hS co hlt fun ws hz=>?_
      replace hS:=hz;clear hz
      refine⟨(hS.box (upd_o (by decide) bx)).at 2 rfl,?_⟩)
    refine enP hA ?_
    clear hA;obtain⟨T2,hS,hk2,co2⟩:=hS.gen1
    have bx2:=(hk2 0 (by decide)).trans bx
    by_cases hkn:k<n
    ·have hkn1:(k:Int)<(n:Int):=by omega
     obtain⟨bC,rfl,hCk⟩:=HC.out k hkn;have HCk:=Lib.hid (fun W hb=>hCk W (HA2.out W hb));have HEk:Hid (C k=Lp.cst n C k):=Lib.hid (if_pos hkn).symm;clear hCk;generalize hu:C k=u' at*;clear hu
     go_upto_region 15 with fail
     replace hS:=hS.drew
     refine wp_schH (S:=fun w'=>w'.cell? ⟨b,2,none⟩=some (.slice (some ⟨gc,0,none⟩) M cc)∧w'.cell? ⟨gP,2,none⟩=some (.slice (some ⟨bC,0,none⟩) n c2)∧w'.cell? ⟨bC,k*3,none⟩=some (.bool (decide (u'.num<0)))∧w'.cell? ⟨bC,k*3+1,none⟩=some (.string (nb u'.num.natAbs))∧w'.cell? ⟨bC,k*3+1+1,none⟩=some (.string (nb u'.den))) (hc:=by as_aux_lemma=>kernel_rfl) (.p 0 (.p 1 (.p 2 (.p 3 (.p 4 (.p 5 (.p 6 (.p 7 (.p 8 (.p 9 (.p 10 (.c 11 .e)))))))))))) [5,9,1] fun zA WD hA aq=>?_
     simp only[←aq.out] at hS
     clear aq
     refine⟨⟨(hS.box bx2).at 2 rfl,(HbP.out _ hS.acc).at 2 rfl,(HCk.out _ hS.acc).1,(HCk.out _ hS.acc).2.1,(HCk.out _ hS.acc).2.2⟩,fun hS0=>?_⟩
     repeat' first
      |((with_reducible refine isP ?_);refine tkO ?_)
      |(
       with_reducible refine isC (i:=11) ?_
       refine stL (i:=11) (x:=3) (j:=k) u' hS co2 hlt fun ws hz=>?_
       replace hS:=hz;clear hz
       refine⟨⟨(hS.box (upd_o (by decide) bx2)).at 2 rfl,(HbP.out _ hS.acc).at 2 rfl,(HCk.out _ hS.acc).1,(HCk.out _ hS.acc).2.1,(HCk.out _ hS.acc).2.2⟩,?_⟩)
     refine enP hA ?_
     clear hA
     skip
     obtain⟨T3,hS,hk3,co3⟩:=hS.gen1;replace co3:=updL2 co3
     go_wp2_with fail
     go_roundw
     case rel=>exact⟨k+1,by omega,by go_num,RTC.of HMe.out hS (fun z h0 h3=>(hk3 z h3).trans (hk2 z h3)) ((hk3 0 (by decide)).trans bx2) co3 rs bs ro (fun j _=>mixF_set HEk.out)⟩
     case measure=>simp[intOf];omega
    ·have hkn1: ¬(k:Int)<(n:Int):=by omega
     have HEk:Hid (q0=Lp.cst n C k):=Lib.hid (HQ0.out.trans (if_neg hkn).symm);clear hkn
     go_wp2_with fail
     go_roundw
     case rel=>exact⟨k+1,by omega,by go_num,RTC.of HMe.out hS (fun z h0 h3=>hk2 z h3) bx2 co2 rs bs ro (fun j _=>mixF_set HEk.out)⟩
     case measure=>simp[intOf];omega
   ·obtain rfl:M=k:=by omega
    have hk1: ¬(M:Int)<(M:Int):=by omega
    have hV:RTC wX wr b m N U (costP N U (Lp.cst n C) 0):=RTC.of HMe.out hS (fun _ _ _=>rfl) bx co rs bs ro (fun j hj=>by rw[costP_zero,←HMe.out];exact mixF_all hj)
    clear hS bx rs bs co ro
    go_wp2_with fail
    clear k0
    go_loopw [10] (fun s10 wr=> ∃i:Nat,i≤m∧s10= .int .i64 (i:Int)∧RTC wX wr b m N U (costP N U (Lp.cst n C) i)) (fun s10 _=>m-(intOf s10).toNat)
    case atStart=>exact⟨0,Nat.zero_le _,rfl,hV⟩
    case round=>
     clear hV;obtain⟨i,hi,rfl,hV⟩:=hrel
     have hw1:IntKind.i64.wrap ((i:Int)+1)=(i:Int)+1:=by rw[IntKind.wrap_i64];omega
     by_cases hlt:i<m
     ·obtain⟨ar,cr,ab,cb,gc,cc,rv_,T,hS,⟨bx,rs,bs,co,ro⟩⟩:=id hV
      rw[HMe.out] at bx co ro;clear hV;obtain⟨_,_,eA,hA1⟩:=(hS.vals rs).form
      obtain⟨ga,rfl⟩: ∃g,ar=some ⟨g,0,none⟩:=by
       obtain⟨g,e1,_⟩:=hA1 (by simpa using (show 0<m by omega))
       simp only[Value.slice.injEq] at eA
       exact⟨g,eA.1.trans e1⟩
      obtain⟨_,_,eB,hB1⟩:=(hS.ints bs).form
      obtain⟨gb,rfl⟩: ∃g,ab=some ⟨g,0,none⟩:=by
       obtain⟨g,e1,_⟩:=hB1 (by simpa using (show 0<m by omega))
       simp only[Value.slice.injEq] at eB
       exact⟨g,eB.1.trans e1⟩
      clear eA hA1 eB hB1;have te:=ro i hlt;obtain⟨aQ,cQ,eQ⟩:=(hS.lst te).form;rw[raws_len] at eQ;rw[eQ] at te
      obtain⟨gQ,rfl,_⟩:=(hS.lst te).slr.get (show 0<M by omega)
      have HEV:=Lib.hid eQ
      have hub:U.bas i<M:=by have:=HW.out.inv.bas i hlt;have:=HHe.out;have:=HNe.out;have:=HMe.out;omega
      have hi0:(0:Int)≤(i:Int):=by omega
      have hi1:(i:Int)<(m:Int):=by omega
      have hu0:(0:Int)≤(U.bas i:Int):=by omega
      have hu1:(U.bas i:Int)<(M:Int):=by omega
      have HInv:Hid (Lp.Inv0 m N U):=Lib.hid (by have h1:=HW.out.inv;rw[HHe.out,HNe.out] at h1;exact h1)
      have HLi:=Lib.hid (HLs.out U HW.out i hlt);clear eQ
      go_upto_region 19 with fail
      replace hS:=hS.drew
      refine wp_schH (S:=fun w'=>w'.cell? ⟨b,0,none⟩=some (.slice (some ⟨ga,0,none⟩) m cr)∧w'.cell? ⟨b,1,none⟩=some (.slice (some ⟨gb,0,none⟩) m cb)∧w'.cell? ⟨gb,i,none⟩=some (.int .i64 (U.bas i:Int))∧w'.cell? ⟨ga,i,none⟩=some (.slice (some ⟨gQ,0,none⟩) M cQ)) (hc:=by as_aux_lemma=>kernel_rfl) (.p 0 (.p 1 (.p 2 (.p 3 (.p 5 (.p 6 (.p 7 (.p 9 (.p 10 (.p 11 (.p 12 (.p 13 (.p 14 (.p 15 (.p 18 (.p 19 (.p 20 (.p 21 (.p 22 (.p 23 (.p 24 (.b (.c 4 (.c 8 (.p 16 (.c 17 (.c 25 (.p 26 (.p 27 (.c 28 .e)))))))) (.c 8 (.p 16 (.b (.c 4 (.c 17 (.c 25 (.p 26 (.p 27 (.c 28 .e)))))) (.c 17 (.c 4 (.c 25 (.p 26 (.p 27 (.c 28 .e))))))))))))))))))))))))))))))) [5,10] fun zA WD hA aq=>?_
      simp only[←aq.out] at hS
      clear aq
      refine⟨⟨(hS.box bx).at 0 rfl,(hS.box bx).at 1 rfl,hS.intat bs hlt,hS.rowat2 rs hlt HEV.out⟩,fun hS0=>?_⟩
      repeat' first
       |((with_reducible refine isP ?_);refine tkO ?_)
       |(with_reducible refine brO ?_ ?_)
       |(
        with_reducible refine isC (i:=4) ?_
        refine ldC (i:=4) ((hS.box bx).at 2 rfl) (⟨(hS.box bx).at 0 rfl,(hS.box bx).at 1 rfl,hS.intat bs hlt,hS.rowat2 rs hlt HEV.out⟩) ?_)
       |(
        with_reducible refine isC (i:=8) ?_
        refine ldC (i:=8) ((hS.box bx).at 2 rfl) (⟨(hS.box bx).at 0 rfl,(hS.box bx).at 1 rfl,hS.intat bs hlt,hS.rowat2 rs hlt HEV.out⟩) ?_)
       |(
        with_reducible refine isC (i:=17) ?_
        refine ldR (i:=17) (costP N U (Lp.cst n C) i (U.bas i)) (hS.e3 co hub) ?_ (hS:=⟨(hS.box bx).at 0 rfl,(hS.box bx).at 1 rfl,hS.intat bs hlt,hS.rowat2 rs hlt HEV.out⟩))
       |(
        with_reducible refine isC (i:=25) ?_
        refine caO (i:=25) (HLi.out _ _ _ _ _ (hS.lst co) (hS.lst te).slr) fun e wn hz=>?_
        obtain⟨an,cn,rfl,hR,hO,hb⟩:=hz.ex;replace hS:=hS.repl co hb hR hO;clear hz hR hO hb
        refine⟨_,rfl,⟨(hS.box (upd_o (by decide) bx)).at 0 rfl,(hS.box (upd_o (by decide) bx)).at 1 rfl,hS.intat (upd_o (by decide) bs) hlt,hS.rowat2 (upd_o (by decide) rs) hlt HEV.out⟩,?_⟩)
       |(
        with_reducible refine isC (i:=28) ?_
        refine stB (i:=28) (x:=0) (j:=2) hS (upd_o (by decide) bx) rfl fun ws hz=>?_
        replace hS:=hz;clear hz
        refine⟨⟨(hS.box (upd_same _ _ _)).at 0 rfl,(hS.box (upd_same _ _ _)).at 1 rfl,hS.intat (upd_o (by decide) (upd_o (by decide) bs)) hlt,hS.rowat2 (upd_o (by decide) (upd_o (by decide) rs)) hlt HEV.out⟩,?_⟩)
      all_goals(
       refine enP hA ?_
       clear hA
       simp only[List.set] at hS
       obtain⟨T5,hS5,hk5,h6,h7⟩:=hS.gen2 (by decide)
       clear hS
       obtain⟨gn,rfl,_⟩:=(hS5.lst h6).slr.get (show 0<M by omega)
       go_wp2_with fail
       go_roundw
       case rel=>exact⟨i+1,by omega,by go_num,RTC.of HMe.out hS5 (fun z h0 h3=>hk5 z h3 h0) h7 h6 rs bs ro (fun j _=>costP_succ HInv.out hlt j)⟩
       case measure=>simp[intOf];omega)
     ·obtain rfl:m=i:=by omega
      have hi1: ¬(m:Int)<(m:Int):=by omega
      have hV:RT wX wr b m N (Lp.wc m U (Lp.cst n C)):=hV.to (fun j hj=>costP_end (if_neg (by have:=HHe.out;have:=HNe.out;omega)) hj)
      go_wp2_with fail
      with_reducible refine(HCL.out _ _ _ _ hV HW.out).mono ?_
      clear hV;rintro e wC ⟨kc,V,hcl,hV,hres⟩
      have HWV:Hid (Lp.Way m n A B V):=Lib.hid (by
       have hw:=HW.out;have hc:=hcl;rw[←HNe.out,←HHe.out] at hc
       exact hw.climbId hc)
      have HNV:Hid (¬Lp.Bas m V H):=Lib.hid (by
       have hb:=HNB.out;have hc:=hcl;have hN2:=HNe.out;have hH2:=HHe.out;subst hH2 hN2
       exact hc.noHid hb)
      clear hcl
      rcases hres with⟨rfl,he⟩|⟨rfl,s,hf⟩
      ·skip
       obtain⟨v,hv⟩: ∃v,v=(Lp.wc m V (Lp.cst n C)).v:=⟨_,rfl⟩
       have HCt:Hid (Cert m n A B C (fun j=>bsolP V j m) (fun i=> -costF N (Lp.wc m V (Lp.cst n C)) (n+i)) v):=Lib.hid (by
        have hw:=HWV.out;have hb:=HNV.out;have he2:=he;have hN2:=HNe.out;have hH2:=HHe.out;subst hv hH2 hN2
        exact certR hw hb he2)
       have HSv:Hid (∀j,j≤N→Sz (costF N (Lp.wc m V (Lp.cst n C)) j) 40000):=Lib.hid (HFC.out V HWV.out)
       have HInv:Hid (Lp.Inv0 m N V):=Lib.hid (by have h1:=HWV.out.inv;rw[HHe.out,HNe.out] at h1;exact h1)
       have HV:=Lib.hid (fun W (hb:Below wC.heap.size wC W)=>(hV.below hb).toC);have hVC:=hV.toC;obtain⟨ar,cr,ab,cb,gc,cc,rv_,T,hS,⟨bx,rs,bs,co,ro⟩⟩:=id hVC;rw[HMe.out] at bx co ro
       have hNM:N<M:=by have:=HMe.out;omega
       have hN0:(0:Int)≤(N:Int):=by omega
       have hN1:(N:Int)<(M:Int):=by omega
       obtain⟨u',hu'⟩: ∃u',u'=costF N (Lp.wc m V (Lp.cst n C)) N:=⟨_,rfl⟩
       have hnu: -u'=v:=by rw[hu',cost_end,hv,Rat.neg_neg]
       have hsu:Sz u' 40000:=by rw[hu'];exact HSv.out N (Nat.le_refl _)
       obtain⟨⟨e0,e1,e2⟩,_⟩:=(hS.e3 co hNM).to hu'.symm
       dsimp only[q3] at e0 e1 e2
       have HNv:=Lib.hid (fun W=>HNg.out u' W hsu);rw[hnu] at HNv
       have HVv:Hid (v= -costF N (Lp.wc m V (Lp.cst n C)) N):=Lib.hid (by rw[←hnu,hu'])
       clear hu' hnu hsu;have k0:=(hS.box bx).at 2 rfl;have HS:=Lib.hid (fun W (hb:Below wC.heap.size wC W)=>hS.below hb);have HB1:=Lib.hid hV.acc;clear hv he hV hVC hS
       go_wp2_with fail
       clear k0 e0 e1 e2
       with_reducible refine(HNv.out _).mono ?_
       rintro e wN ⟨rfl,am⟩;have hS:=(Sep.start am).newbox (x:=0) rfl [.slice none 0 0,.slice none 0 0,.bool (decide (v.num<0)),.string (nb v.num.natAbs),.string (nb v.den)] 35;clear am
       go_upto_region 24 with fail
       generalize wN.heap.size=gs at*;generalize wN.alloc (.cells #[.slice none 0 0,.slice none 0 0,.bool (decide (v.num<0)),.string (nb v.num.natAbs),.string (nb v.den)] 35)=wS at*
       go_wp2_with fail
       go_loopw [13] (fun s13 wr=> ∃j:Nat,j≤n∧s13= .int .i64 (j:Int)∧∃vX T',Sep wC wr T'∧T' 0=boxT gs [vX,.slice none 0 0,.bool (decide (v.num<0)),.string (nb v.num.natAbs),.string (nb v.den)]∧T' 1=listT vX (raws j (fun j=>bsolP V j m))∧∀x,2≤x→T' x=nothing) (fun s13 _=>n-(intOf s13).toNat)
       case atStart=>exact⟨0,Nat.zero_le _,rfl,.slice none 0 0,_,hS.same 1 (listT (.slice none 0 0) []) (Rats.nil _ _) (fun _ e=>(own_none e).elim),rfl,rfl,fun x hx=>by
        rw[upd_ne (by omega),upd_ne (by omega)]⟩
       case round=>
        clear hS;obtain⟨j,hj,rfl,vX,T',hS,h0,h1,hx⟩:=hrel
        have hw1:IntKind.i64.wrap ((j:Int)+1)=(j:Int)+1:=by rw[IntKind.wrap_i64];omega
        by_cases hlt:j<n
        ·have hj0:(0:Int)≤(j:Int):=by omega
         have hj1:(j:Int)<(n:Int):=by omega
         go_wp2_with fail
         with_reducible refine(HZ.out _).mono ?_
         rintro e wZ ⟨rfl,am⟩
         have hS2:=(hS.below am).newbox (x:=4) (hx 4 (by omega)) [.bool (decide (q0.num<0)),.string (nb q0.num.natAbs),.string (nb q0.den)] 33
         clear am hS
         go_upto_region 28 with fail
         generalize wZ.heap.size=gx at*;generalize wZ.alloc (.cells #[.bool (decide (q0.num<0)),.string (nb q0.num.natAbs),.string (nb q0.den)] 33)=wY at*
         have hS:Sep wC wY (upd T' 4 (boxT gx [.bool (decide ((bsolP V j 0).num<0)),.string (nb (bsolP V j 0).num.natAbs),.string (nb (bsolP V j 0).den)])):=by
          have e1:bsolP V j 0=q0:=bsolP_zero.trans HQ0.out.symm;rw[e1];exact hS2
         clear hS2
         go_wp2_with fail
         go_loopw [15] (fun s15 wr=> ∃i:Nat,i≤m∧s15= .int .i64 (i:Int)∧Sep wC wr (upd T' 4 (boxT gx [.bool (decide ((bsolP V j i).num<0)),.string (nb (bsolP V j i).num.natAbs),.string (nb (bsolP V j i).den)]))) (fun s15 _=>m-(intOf s15).toNat)
         case atStart=>exact⟨0,Nat.zero_le _,rfl,hS⟩
         case round=>
          clear hS;obtain⟨i,hi,rfl,hS⟩:=hrel
          have hw2:IntKind.i64.wrap ((i:Int)+1)=(i:Int)+1:=by rw[IntKind.wrap_i64];omega
          by_cases hlt2:i<m
          ·have hi0:(0:Int)≤(i:Int):=by omega
           have hi1:(i:Int)<(m:Int):=by omega
           obtain⟨ga,cr5,gb,cb5,gQ,cQ,k0,k1,k2,k3,hE⟩:=(HV.out _ hS.acc).rowAt hlt2;replace k3:wr.cell? ⟨gb,i,none⟩=some (.int .i64 (V.bas i:Int)):=k3;obtain⟨⟨e0,e1,e2⟩,_⟩:=(hE N (Nat.lt_succ_self N)).to (show rowF N (Lp.wc m V (Lp.cst n C)) i N=V.b i from row_end)
           dsimp only[q3] at e0 e1 e2
           rw[HMe.out] at k2;have kx:=hS.box (upd_same _ _ _);have f0:=kx.fr 0 rfl;have f1:=kx.fr 1 rfl;have f2:=kx.fr 2 rfl;have b0:=kx.at 0 rfl;have b1:=kx.at 1 rfl;have b2:=kx.at 2 rfl;clear hE kx
           by_cases hbj:V.bas i=j
           ·have hbe:((V.bas i:Int)==(j:Int))=true:=by rw[hbj];simp
            have hbf:(V.bas i:Int)=(j:Int):=by rw[hbj]
            have HBJ:=Lib.hid (bsolP_hit HInv.out hlt2 hbj);clear hbj;generalize hu:V.b i=u' at*;clear hu
            go_wp2_with fail
            have hS4:=((hS.setbox (x:=4) (j:=0) (upd_same _ _ _) (.bool (decide (u'.num<0))) (by simp)).setbox (x:=4) (j:=1) (upd_same _ _ _) (.string (nb u'.num.natAbs)) (by simp)).setbox (x:=4) (j:=2) (upd_same _ _ _) (.string (nb u'.den)) (by simp)
            simp only[upd_upd,List.set] at hS4
            clear hS
            go_roundw
            case rel=>exact⟨i+1,by omega,by go_num,by rw[HBJ.out];exact hS4⟩
            case measure=>simp[intOf];omega
           ·have hbe:((V.bas i:Int)==(j:Int))=false:=by simp only[beq_eq_false_iff_ne,ne_eq];omega
            have hbf: ¬(V.bas i:Int)=(j:Int):=by omega
            have HBJ:=Lib.hid (bsolP_miss (T:=V) hbj);clear hbj
            go_wp2_with fail
            go_roundw
            case rel=>exact⟨i+1,by omega,by go_num,by rw[HBJ.out];exact hS⟩
            case measure=>simp[intOf];omega
          ·obtain rfl:m=i:=by omega
           have hi1: ¬(m:Int)<(m:Int):=by omega
           have HX:=Lib.hid (raws_succ j (fun j=>bsolP V j m));obtain⟨x',hx'⟩: ∃x',x'=bsolP V j m:=⟨_,rfl⟩
           simp only[←hx'] at hS HX
           clear hx';have kx:=hS.box (upd_same _ _ _);have b0:=kx.at 0 rfl;have b1:=kx.at 1 rfl;have b2:=kx.at 2 rfl
           have kg:=hS.box (i:=0) (upd_o (by decide) h0)
           have g0:=kg.at 0 rfl
           have hL:=Rats.lit (B:=0) wr (Nat.zero_le _) [⟨decide (x'.num<0),nb x'.num.natAbs,nb x'.den⟩] (by simp)
           have hSa:=hS.alloc (.cells #[.bool (decide (x'.num<0)),.string (nb x'.num.natAbs),.string (nb x'.den)] 33)
           have hln:(raws j (fun j=>bsolP V j m)).length+ [(⟨decide (x'.num<0),nb x'.num.natAbs,nb x'.den⟩:Raw)].length<1000000000:=by rw[raws_len];simp;omega
           clear kx kg
           go_wp2_with (at_builtin;refine app_rats (by rfl) (by rfl) (by rfl) (by rfl) 0 (hSa.lst (i:=1) (upd_o (by decide) h1)) hL hln (Nat.zero_le _) ?_;intro v2 w2_ e1 e2 e3;obtain⟨av,cv,ev⟩:=e1.form;rw[←HX.out,raws_len] at ev;subst ev;have hSb:=hSa.app (x:=1) (upd_o (by decide) h1) e2 e1 e3;have kg:=hSb.box (i:=0) (upd_o (by decide) (upd_o (by decide) h0));have g0:=kg.at 0 rfl;have f0:=kg.fr 0 rfl)
           have hSb:=hSa.app (x:=1) (upd_o (by decide) h1) e2 e1 e3
           rw[←HX.out] at hSb
           have hSc:=(hSb.setbox (x:=0) (j:=0) (upd_o (by decide) (upd_o (by decide) h0)) (.slice av (j+1) cv) (by simp)).step 4 nothing (Off.refl _ _) trivial (fun _ h=>h.elim)
           simp only[List.set] at hSc
           clear hS hSa hSb hL hln e1 e2 e3 b0 b1 b2 g0 kg f0 HX
           go_roundw
           case rel=>exact⟨j+1,by omega,by go_num,_,_,hSc,upd_o (by decide) (upd_same _ _ _),upd_o (by decide) (upd_o (by decide) (upd_same _ _ _)),fun x h2=>by
            by_cases e:x=4
            ·rw[e,upd_same]
            ·rw[upd_ne e,upd_ne (by omega),upd_ne (by omega),upd_ne e];exact hx x h2⟩
           case measure=>simp[intOf];omega
        ·obtain rfl:n=j:=by omega
         have hj1: ¬(n:Int)<(n:Int):=by omega
         go_wp2_with fail
         go_loopw [16] (fun s16 wr=> ∃i:Nat,i≤m∧s16= .int .i64 (i:Int)∧∃vY T'',Sep wC wr T''∧T'' 0=boxT gs [vX,vY,.bool (decide (v.num<0)),.string (nb v.num.natAbs),.string (nb v.den)]∧T'' 1=listT vX (raws n (fun j=>bsolP V j m))∧T'' 2=listT vY (raws i (fun i=> -costF N (Lp.wc m V (Lp.cst n C)) (n+i)))) (fun s16 _=>m-(intOf s16).toNat)
         case atStart=>exact⟨0,Nat.zero_le _,rfl,.slice none 0 0,_,hS.same 2 (listT (.slice none 0 0) []) (Rats.nil _ _) (fun b e=>(own_none e).elim),upd_o (by decide) h0,upd_o (by decide) h1,upd_same _ _ _⟩
         case round=>
          clear hS h0 h1 hx T';obtain⟨i,hi,rfl,vY,T',hS,h0,h1,h2⟩:=hrel
          have hw2:IntKind.i64.wrap ((i:Int)+1)=(i:Int)+1:=by rw[IntKind.wrap_i64];omega
          by_cases hlt:i<m
          ·have hi0:(0:Int)≤(i:Int):=by omega
           have hi1:(i:Int)<(m:Int):=by omega
           have hiM:n+i<M:=by have:=HHe.out;have:=HNe.out;have:=HMe.out;omega
           have hni0:(0:Int)≤((n+i:Nat):Int):=by omega
           have hni1:((n+i:Nat):Int)<(M:Int):=by omega
           have hw3:IntKind.i64.wrap ((n:Int)+(i:Int))=((n+i:Nat):Int):=by rw[IntKind.wrap_i64];omega
           have HX:=Lib.hid (raws_succ i (fun i=> -costF N (Lp.wc m V (Lp.cst n C)) (n+i)));have HE:=Lib.hid (fun W (hb:Below wC.heap.size wC W)=>(HS.out W hb).e3 co hiM)
           have HNy:=Lib.hid (fun W=>HNg.out (costF N (Lp.wc m V (Lp.cst n C)) (n+i)) W (HSv.out (n+i) (by have:=HHe.out;have:=HNe.out;omega)))
           generalize hni:n+i=ni at*;generalize hy: -costF N (Lp.wc m V (Lp.cst n C)) ni=y' at*;generalize hu:costF N (Lp.wc m V (Lp.cst n C)) ni=u' at*;clear hy hu
           go_upto_region 37 with fail
           replace hS:=hS.drew
           refine wp_schH (S:=fun w'=>w'.cell? ⟨b,2,none⟩=some (.slice (some ⟨gc,0,none⟩) M cc)∧w'.cell? ⟨gc,ni*3,none⟩=some (.bool (decide (u'.num<0)))∧w'.cell? ⟨gc,ni*3+1,none⟩=some (.string (nb u'.num.natAbs))∧w'.cell? ⟨gc,ni*3+1+1,none⟩=some (.string (nb u'.den))) (hc:=by as_aux_lemma=>kernel_rfl) (.p 0 (.p 2 (.p 3 (.p 4 (.p 5 (.p 6 (.p 7 (.p 8 (.p 9 (.p 10 (.b (.c 1 (.c 11 (.c 12 (.c 13 (.p 14 (.c 15 .e)))))) (.c 11 (.b (.c 1 (.c 12 (.c 13 (.p 14 (.c 15 .e))))) (.c 12 (.c 1 (.c 13 (.p 14 (.c 15 .e)))))))))))))))))) [12,5,7,16] fun zA WD hA aq=>?_
           simp only[←aq.out] at hS
           clear aq
           refine⟨⟨((HS.out _ hS.acc).box bx).at 2 rfl,(HE.out _ hS.acc).1.1,(HE.out _ hS.acc).1.2.1,(HE.out _ hS.acc).1.2.2⟩,fun hS0=>?_⟩
           repeat' first
            |((with_reducible refine isP ?_);refine tkO ?_)
            |(with_reducible refine brO ?_ ?_)
            |(
             with_reducible refine isC (i:=1) ?_
             refine ldC (i:=1) ((hS.box h0).at 1 rfl) (⟨((HS.out _ hS.acc).box bx).at 2 rfl,(HE.out _ hS.acc).1.1,(HE.out _ hS.acc).1.2.1,(HE.out _ hS.acc).1.2.2⟩) ?_)
            |(
             with_reducible refine isC (i:=11) ?_
             refine caO (i:=11) (HNy.out _) fun e wn hz=>?_
             obtain⟨rfl,hb⟩:=hz;replace hS:=hS.below hb;clear hb
             refine⟨_,rfl,⟨((HS.out _ hS.acc).box bx).at 2 rfl,(HE.out _ hS.acc).1.1,(HE.out _ hS.acc).1.2.1,(HE.out _ hS.acc).1.2.2⟩,?_⟩)
            |(
             with_reducible refine isC (i:=12) ?_
             refine liO (i:=12) (k:=1) (l:= [⟨decide (y'.num<0),nb y'.num.natAbs,nb y'.den⟩]) (by simp) rfl rfl fun _ _ hr hg hb=>?_
             replace hS:=hS.below hb;have hlit:=hr;clear hr hg hb
             refine⟨⟨((HS.out _ hS.acc).box bx).at 2 rfl,(HE.out _ hS.acc).1.1,(HE.out _ hS.acc).1.2.1,(HE.out _ hS.acc).1.2.2⟩,?_⟩)
            |(
             with_reducible refine isC (i:=13) ?_
             refine apS (i:=13) (x:=2) (k:=i+1) hS h2 hlit (by rw[raws_len];rfl) (by omega) fun aa ca wa hz _=>?_
             replace hS:=hz;clear hz hlit
             refine⟨⟨((HS.out _ hS.acc).box bx).at 2 rfl,(HE.out _ hS.acc).1.1,(HE.out _ hS.acc).1.2.1,(HE.out _ hS.acc).1.2.2⟩,?_⟩)
            |(
             with_reducible refine isC (i:=15) ?_
             refine stB (i:=15) (x:=0) (j:=1) hS (upd_o (by decide) h0) rfl fun ws hz=>?_
             replace hS:=hz;clear hz
             refine⟨⟨((HS.out _ hS.acc).box bx).at 2 rfl,(HE.out _ hS.acc).1.1,(HE.out _ hS.acc).1.2.1,(HE.out _ hS.acc).1.2.2⟩,?_⟩)
           all_goals(
            refine enP hA ?_
            clear hA
            simp only[List.set] at hS
            rw[←HX.out] at hS
            obtain⟨T5,hS,hk5,h6,h7⟩:=hS.gen2 (by decide)
            go_wp2_with fail
            go_roundw
            case rel=>exact⟨i+1,by omega,by go_num,_,T5,hS,h7,(hk5 1 (by decide) (by decide)).trans h1,h6⟩
            case measure=>simp[intOf];omega)
          ·obtain rfl:m=i:=by omega
           have hi1: ¬(m:Int)<(m:Int):=by omega
           obtain⟨ax,cx,e⟩:=(hS.lst h1).form;rw[raws_len] at e;subst e;obtain⟨ay,cy,e⟩:=(hS.lst h2).form;rw[raws_len] at e;subst e;have kg:=hS.box h0;have g0:=kg.at 0 rfl;have g1:=kg.at 1 rfl;have g2:=kg.at 2 rfl;have g3:=kg.at 3 rfl;have g4:=kg.at 4 rfl;clear kg;have HB2:=HB1.out.trans (hS.acc.mono HB1.out.size);have bR:=HbR.out _ HB2;have ag:=HB0.out.trans (HB2.mono HB0.out.size)
           have⟨cgR0,fgR0,cgR1,fgR1,cgR2,fgR2,cR3,fR3,cR4,fR4⟩:=bR.all5
           go_wp2_with fail
           clear cgR0 fgR0 cgR1 fgR1 cgR2 fgR2 cR3 fR3 cR4 fR4;replace ag:=ag.setCell (p:=⟨gR,0,none⟩) kgR (.slice ax n cx)
           replace bR:=bR.put 0 (.slice ax n cx) (by simp)
           simp only[List.set] at bR
           replace ag:=ag.setCell (p:=⟨gR,1,none⟩) kgR (.slice ay m cy)
           replace bR:=bR.put 1 (.slice ay m cy) (by simp)
           simp only[List.set] at bR
           replace ag:=ag.setCell (p:=⟨gR,2,none⟩) kgR (.bool (decide (v.num<0)))
           replace bR:=bR.put 2 (.bool (decide (v.num<0))) (by simp)
           simp only[List.set] at bR
           replace ag:=ag.setCell (p:=⟨gR,3,none⟩) kgR (.string (nb v.num.natAbs))
           replace bR:=bR.put 3 (.string (nb v.num.natAbs)) (by simp)
           simp only[List.set] at bR
           replace ag:=ag.setCell (p:=⟨gR,4,none⟩) kgR (.string (nb v.den))
           replace bR:=bR.put 4 (.string (nb v.den)) (by simp)
           simp only[List.set] at bR
           have hoff:=((((((Off.refl (fun k=>k=gR) wr).set (p:=⟨gR,0,none⟩) rfl (.slice ax n cx)).set (p:=⟨gR,1,none⟩) rfl (.slice ay m cy)).set (p:=⟨gR,2,none⟩) rfl (.bool (decide (v.num<0)))).set (p:=⟨gR,3,none⟩) rfl (.string (nb v.num.natAbs))).set (p:=⟨gR,4,none⟩) rfl (.string (nb v.den)));have⟨cgR0,fgR0,cgR1,fgR1,cgR2,fgR2,cR3,fR3,cR4,fR4⟩:=bR.all5
           have hX:=((hS.lst h1).off hoff (fun k hk e=>by
            have:=(hS.o 1 k (by rw[h1];exact hk)).1
            have:=HB1.out.size;have:=HgR.out
            omega)).slr
           have hY:=((hS.lst h2).off hoff (fun k hk e=>by
            have:=(hS.o 2 k (by rw[h2];exact hk)).1
            have:=HB1.out.size;have:=HgR.out
            omega)).slr
           refine bodyPost_ret (v:=.tuple #[.agg #[.slice ax n cx,.slice ay m cy,.bool (decide (v.num<0)),.string (nb v.num.natAbs),.string (nb v.den)],.int .i64 0]) (by simp[results,Tryz.results15,go_sem,cgR0,cgR1,cgR2,cR3,cR4]) rfl ?_
           exact⟨0,⟨ag,.ok HCt.out,.inl ⟨rfl,ax,cx,ay,cy,_,_,v,rfl,HCt.out,hX,hY,fun K hK hz=>by
            have hc:=hz.c V HWV.out;rw[HHe.out,HNe.out] at hc
            exact⟨fun j hj=>bsolP_Sz hK HInv.out (hz.b V HWV.out) (Nat.le_refl _),fun i hi=>Sz_neg (hc _ (by have:=HHe.out;have:=HNe.out;omega)),by rw[HVv.out];exact Sz_neg (hc N (Nat.le_refl _))⟩⟩⟩⟩
      ·have HF:Hid (Lp.Out m n A B C 2):=Lib.hid (by
        have hw:=HWV.out;have hb:=HNV.out;have hf2:=hf;have hN2:=HNe.out;have hH2:=HHe.out;subst hH2 hN2
        exact unbR hw hb hf2)
       have hacc1:=hV.acc;clear hf hV;have bR:=HbR.out _ hacc1;have ag:=HB0.out.trans (hacc1.mono HB0.out.size);have⟨cgR0,fgR0,cgR1,fgR1,cgR2,fgR2,cR3,fR3,cR4,fR4⟩:=bR.all5
       go_wp2_with fail
       clear cgR0 fgR0 cgR1 fgR1 cgR2 fgR2 cR3 fR3 cR4 fR4;replace ag:=ag.setCell (p:=⟨gR,0,none⟩) kgR (.slice none 0 0)
       replace bR:=bR.put 0 (.slice none 0 0) (by simp)
       simp only[List.set] at bR
       replace ag:=ag.setCell (p:=⟨gR,1,none⟩) kgR (.slice none 0 0)
       replace bR:=bR.put 1 (.slice none 0 0) (by simp)
       simp only[List.set] at bR
       replace ag:=ag.setCell (p:=⟨gR,2,none⟩) kgR (.bool false)
       replace bR:=bR.put 2 (.bool false) (by simp)
       simp only[List.set] at bR
       replace ag:=ag.setCell (p:=⟨gR,3,none⟩) kgR (.string ⟨#[]⟩)
       replace bR:=bR.put 3 (.string ⟨#[]⟩) (by simp)
       simp only[List.set] at bR
       replace ag:=ag.setCell (p:=⟨gR,4,none⟩) kgR (.string ⟨#[]⟩)
       replace bR:=bR.put 4 (.string ⟨#[]⟩) (by simp)
       simp only[List.set] at bR
       have⟨cgR0,fgR0,cgR1,fgR1,cgR2,fgR2,cR3,fR3,cR4,fR4⟩:=bR.all5
       refine bodyPost_ret (v:=.tuple #[solZ,.int .i64 40]) (by simp[results,Tryz.results15,solZ,go_sem,cgR0,cgR1,cgR2,cR3,cR4]) rfl ?_
       exact⟨2,⟨ag,HF.out,.inr (.inr ⟨rfl,rfl⟩)⟩⟩
end Go.Proofs.YtinmmkcjjlconaaGreat
