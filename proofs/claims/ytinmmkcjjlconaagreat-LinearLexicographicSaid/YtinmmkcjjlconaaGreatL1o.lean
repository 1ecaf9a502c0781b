/- Parts of the proofs about this seat's statements. -/
import Derived.Test.YtinmmkcjjlconaaGreatL1n
set_option maxRecDepth 100000
set_option maxHeartbeats 16000000
namespace Go.Proofs.YtinmmkcjjlconaaGreat
open Go.RowKit W
open Pl (nb bv bv_nb nb_size_zero)
open Lp (S S_succ)
theorem prices3_any (D:TD) (o:TDo D) (T:Lp.Tab) (bar:Nat→Bool) (gc:Nat) (pc lc:Array Value) (g:Nat→Rat) (w:World) (h:TM D w T bar) (ec:Enters gc) (hc:Fn1 NoB gc pc lc (D.n+D.m+1) g w) (hb: ∀i,i<D.m→T.bas i<D.n+D.m+1) (sG: ∀j,j<D.n+D.m+1→Sz (g j) 40000) (sT: ∀i k,i<D.m→k<D.m→Sz (T.a i (D.n+k)) 40000):
  Calls Tryz.prog 41 #[.pointer (some ⟨D.bt,0,none⟩),.func (.func gc) pc lc] w fun e w'=> ∃gy,e= .returned (.slice (some ⟨gy,0,none⟩) D.m D.m)∧w.heap.size≤gy∧Row3 w' gy D.m (fun k=>q3 (S D.m (fun i=>g (T.bas i)*T.a i (D.n+k))))∧Below w.heap.size w w':=by
 have hm:=o.hm;have HT:Hid (∀W,Below w.heap.size w W→TM D W T bar):=Lib.hid (fun W hb=>h.below hb);have hft:=h.tf;have HC:Hid (∀W,Below w.heap.size w W→W.cell? ⟨D.bt,3,none⟩=some (.int .i64 (D.m:Int))):=Lib.hid (fun W hb=>hft.c hb 3 rfl)
 have HDot:Hid (∀W gC gT gK k,k<D.m→Below w.heap.size w W→W.cell? ⟨gC,0,none⟩=some (.func (.func gc) pc lc)→W.cell? ⟨gT,0,none⟩=some (.pointer (some ⟨D.bt,0,none⟩))→W.cell? ⟨gK,0,none⟩=some (.int .i64 (k:Int))→gC<W.heap.size→gT<W.heap.size→gK<W.heap.size→
   Calls Tryz.prog 43 #[.int .i64 (D.m:Int),.func (.func 75) #[] #[.pointer (some ⟨gC,0,none⟩),.pointer (some ⟨gT,0,none⟩)],.func (.func 76) #[] #[.pointer (some ⟨gT,0,none⟩),.pointer (some ⟨gK,0,none⟩)]] W fun e w'=>e= .returned (rv (S D.m (fun i=>g (T.bas i)*T.a i (D.n+k))))∧Below W.heap.size W w'):=
  Lib.hid (fun W gC gT gK k hk hw h0 h1 h2 l0 l1 l2=>dot_any D.m 40000 (by omega) (by omega) (fun i=>g (T.bas i)) (fun i=>T.a i (D.n+k)) _ _ _ _ _ _ W pr1_enters pr2_enters (pr1_fn D o T bar (D.n+D.m+1) gc pc lc g gC gT W (HT.out W hw) ec (hc.below hw) hb h0 h1 l0 l1) (pr2_fn D o T bar k gT gK hk W (HT.out W hw) h1 h2 l1 l2) (fun i hi=>sG _ (hb i hi)) (fun i hi=>sT i k hi hk))
 clear h hft HT sG sT o ec hc hb;obtain⟨G,hG⟩: ∃G:Nat→Rat,G=fun k=>S D.m (fun i=>g (T.bas i)*T.a i (D.n+k)):=⟨_,rfl⟩
 rw[show(fun k=>q3 (S D.m (fun i=>g (T.bas i)*T.a i (D.n+k))))=(fun k=>q3 (G k)) by rw[hG]]
 have HG:Hid (∀k,S D.m (fun i=>g (T.bas i)*T.a i (D.n+k))=G k):=Lib.hid (fun k=>by rw[hG])
 simp only[HG.out] at HDot
 clear hG HG;generalize D.bt=bt at*;generalize D.m=m at*
 go_enter Tryz.func41,Tryz.ntmps41
 have⟨bT,bC,ag⟩:=opn2 w [.pointer (some ⟨bt,0,none⟩)] [.func (.func gc) pc lc] 72 43
 go_upto_region 1 with fail
 generalize (w.alloc (.cells #[.pointer (some ⟨bt,0,none⟩)] 72)).alloc (.cells #[.func (.func gc) pc lc] 43)=W0 at*;generalize hgC:w.heap.size+1=gC at*;obtain⟨gT,hgT⟩: ∃g,g=w.heap.size:=⟨_,rfl⟩;rw[←hgT] at bT
 simp only[←hgT]
 have ngTgC:gT≠gC:=by omega
 have kgT:w.heap.size≤gT:=by omega
 have kgC:w.heap.size≤gC:=by omega
 clear hgT hgC
 have hmk:=Lib.hid (fun W=>run_mkR (m:Int) m rfl (by omega) W)
 have s3:=HC.out _ ag;have hmk1:=hmk.out W0;have⟨cT0,fT0⟩:=bT.all1;have kgD:=ag.size;replace ag:=ag.alloc ag.size (.cells (zr3 m) 33);have dgT:=bT.lt;have dgC:=bC.lt;replace bT:=bT.alloc (.cells (zr3 m) 33);replace bC:=bC.alloc (.cells (zr3 m) 33);have hd:=Row3.made W0 m
 go_upto_region 2 with fail
 clear cT0 fT0;clear hmk hmk1 s3;generalize W0.heap.size=gD at*;generalize W0.alloc (.cells (zr3 m) 33)=WD at*
 have ngDgT:gD≠gT:=by omega
 have ngDgC:gD≠gC:=by omega
 clear dgT dgC
 go_wp2_with fail
 go_loopw [14] (fun i wr=> ∃k:Nat,k≤m∧i= .int .i64 k∧Rx wr gT [.pointer (some ⟨bt,0,none⟩)]∧Rx wr gC [.func (.func gc) pc lc]∧Row3 wr gD m (fun x=>if x<k then q3 (G x) else z3)∧Below w.heap.size w wr) (fun i _=>m-(intOf i).toNat)
 case atStart=>exact⟨0,by omega,rfl,bT,bC,hd.congr (fun i _=>(if_neg (by omega)).symm),ag⟩
 case round=>
  clear ag bT bC hd;obtain⟨k,hk,rfl,bT,bC,hd,ag⟩:=hrel
  by_cases hlt:k<m
  ·have hk0:(0:Int)≤(k:Int):=by omega
   have hk1:(k:Int)<(m:Int):=by omega
   have HDk:=Lib.hid (fun W gK hb h0 h1 h2 l0 l1 l2=>HDot.out W gC gT gK k hlt hb h0 h1 h2 l0 l1 l2)
   simp only[rv] at HDk
   have dD:=hd.lt;have kgK:=ag.size;replace ag:=ag.alloc ag.size (.cells #[.int .i64 (k:Int)] 3);have dgT:=bT.lt;have dgC:=bC.lt;replace bT:=bT.alloc (.cells #[.int .i64 (k:Int)] 3);replace bC:=bC.alloc (.cells #[.int .i64 (k:Int)] 3);replace hd:=hd.alloc (.cells #[.int .i64 (k:Int)] 3);have bK:Rx (wr.alloc (.cells #[.int .i64 (k:Int)] 3)) wr.heap.size [.int .i64 (k:Int)]:=Rx.new wr _ rfl [.int .i64 (k:Int)] 3
   go_upto_region 5 with fail
   generalize wr.heap.size=gK at*;generalize wr.alloc (.cells #[.int .i64 (k:Int)] 3)=WgK at*
   have ngTgK:gT≠gK:=by omega
   have ngCgK:gC≠gK:=by omega
   clear dgT dgC
   have ngDgK:gD≠gK:=by omega
   clear dD;replace ag:=ag.drew;replace bT:=bT.drew;replace bC:=bC.drew;replace bK:=bK.drew;replace hd:=hd.drew
   refine wp_schH (S:=(fun w'=>w'.cell? ⟨gT,0,none⟩=some (.pointer (some ⟨bt,0,none⟩))∧w'.cell? ⟨gK,0,none⟩=some (.int .i64 (k:Int))∧w'.cell? ⟨bt,3,none⟩=some (.int .i64 (m:Int)))) (ps 0 8 (.c 8 (.p 9 (.c 10 .e)))) [5,6,2,3] fun A WD hA aq=>?_
   simp only[←aq.out] at ag bT bC bK hd
   clear aq
   refine⟨?_,fun ap=>?_⟩
   ·try dsimp only
    with_reducible exact⟨bT.at 0 rfl,bK.at 0 rfl,HC.out _ ag⟩
   repeat(refine isP ?_;refine tkO ?_)
   refine caO (HDk.out _ gK ag (bC.at 0 rfl) (bT.at 0 rfl) (bK.at 0 rfl) bC.lt bT.lt bK.lt) fun e wZ hz=>?_
   obtain⟨rfl,am⟩:=hz;replace ag:=ag.tr am;replace bT:=bT.below am;replace bC:=bC.below am;replace bK:=bK.below am;replace hd:=hd.below am;clear am
   refine⟨_,rfl,?_,?_⟩
   ·try dsimp only
    with_reducible exact⟨bT.at 0 rfl,bK.at 0 rfl,HC.out _ ag⟩
   repeat(refine isP ?_;refine tkO ?_)
   refine acO fun aa KK hF hK=>?_
   dsimp only[Fa] at hF
   obtain⟨cR0,cR1,cR2⟩:=hd.2 k hlt;have fR0:=hd.3 (k*3);have fR1:=hd.3 (k*3+1);have fR2:=hd.3 (k*3+1+1)
   go_simp
   clear cR0 cR1 cR2 fR0 fR1 fR2;replace hd:=hd.put hlt (q3 (G k));have ag:=below_sto3 ag kgD (i:=k) (q3 (G k));replace bT:=bT.sto3o (h:=gD) (i:=k) ngDgT (q3 (G k));replace bC:=bC.sto3o (h:=gD) (i:=k) ngDgC (q3 (G k));replace bK:=bK.sto3o (h:=gD) (i:=k) ngDgK (q3 (G k));have hWS:sto3 wZ gD k (q3 (G k))=((wZ.setCell ⟨gD,k*3,none⟩ (.bool (decide ((G k).num<0)))).setCell ⟨gD,k*3+1,none⟩ (.string (nb (G k).num.natAbs))).setCell ⟨gD,k*3+1+1,none⟩ (.string (nb (G k).den)):=rfl
   rw[hWS] at ag hd bT bC bK;clear hWS;generalize ((wZ.setCell ⟨gD,k*3,none⟩ (.bool (decide ((G k).num<0)))).setCell ⟨gD,k*3+1,none⟩ (.string (nb (G k).num.natAbs))).setCell ⟨gD,k*3+1+1,none⟩ (.string (nb (G k).den))=WS at*
   (first|refine hK.out undef _ ?_ (fun ap=>?_)|(go_wp2_with fail;refine hK.out undef _ ?_ (fun ap=>?_)))
   ·try dsimp only
    with_reducible exact⟨bT.at 0 rfl,bK.at 0 rfl,HC.out _ ag⟩
   clear hK KK hF aa
   refine enO hA ?_
   clear hA
   go_wp2_with fail
   go_roundw
   case rel=>
    refine⟨k+1,by omega,by go_num,bT,bC,hd.congr (fun x hx=>?_),ag⟩
    by_cases e:x=k
    ·subst e;rw[upd_same,if_pos (by omega)]
    ·rw[upd_ne e]
     by_cases e2:x<k
     ·rw[if_pos e2,if_pos (by omega)]
     ·rw[if_neg e2,if_neg (by omega)]
   case measure=>simp[intOf];omega
  ·obtain rfl:k=m:=by omega
   go_wp2_with fail
   go_ret
   exact⟨gD,rfl,kgD,hd.congr (fun i hi=>if_pos hi),ag⟩
theorem bsol_succ {T:Lp.Tab} {m N i:Nat} (hT:Lp.Inv0 m N T) (hi:i<m) (j:Nat):Lp.bsol (i+1) T j=if j=T.bas i then T.b i else Lp.bsol i T j:=by
 show Lp.S (i+1) _=_
 rw[Lp.S_succ]
 by_cases e:j=T.bas i
 ·rw[if_pos e,if_pos e.symm,Lp.S_eq0,Rat.zero_add]
  intro k hk
  rw[if_neg]
  intro e2
  have:=hT.inj (by omega) hi (e2.trans e)
  omega
 ·rw[if_neg e,if_neg (fun h=>e h.symm),Rat.add_zero]
  rfl
theorem solution_any (D:TD) (o:TDo D) (T:Lp.Tab) (bar:Nat→Bool) (w:World) (h:TM D w T bar) (hT:Lp.Inv0 D.m (D.n+D.m+1) T):
  Calls Tryz.prog 40 #[.pointer (some ⟨D.bt,0,none⟩)] w fun e w'=> ∃g,e= .returned (.slice (some ⟨g,0,none⟩) D.n D.n)∧w.heap.size≤g∧Row3 w' g D.n (fun j=>q3 (Lp.bsol D.m T j))∧Below w.heap.size w w':=by
 have hm:=o.hm;have hn:=o.hn;obtain⟨z,hz⟩: ∃z:Rat,z=0:=⟨_,rfl⟩;have HZ:=Lib.hid hz;obtain⟨ab,cb,hvb,hab⟩:=o.sb;obtain⟨av,cv,hvv,hav⟩:=o.sv
 have HC:Hid (∀W,Below w.heap.size w W→W.cell? ⟨D.bt,4,none⟩=some (.int .i64 (D.n:Int))∧W.cell? ⟨D.bt,5,none⟩=some (.slice ab D.m cb)∧W.cell? ⟨D.bt,9,none⟩=some (.slice av D.m cv)∧W.cell? ⟨D.bt,10,none⟩=some (.bool (decide (z.num<0)))∧W.cell? ⟨D.bt,11,none⟩=some (.string (nb z.num.natAbs))∧W.cell? ⟨D.bt,12,none⟩=some (.string (nb z.den))):=Lib.hid (fun W hb=>by
  have hf:=(h.below hb).fix;rw[hz]
  exact⟨hf.at 4 rfl,hvb▸hf.at 5 rfl,hvv▸hf.at 9 rfl,hf.at 10 rfl,hf.at 11 rfl,hf.at 12 rfl⟩)
 have HBs:Hid (∀W,Below w.heap.size w W→∀i,i<D.m→W.cell? ⟨D.gb,i,none⟩=some (.int .i64 (T.bas i:Int))):=Lib.hid (fun W hb i hi=>((h.below hb).basis (by omega)).2 i hi)
 have HVs:Hid (∀W,Below w.heap.size w W→∀i,i<D.m→W.cell? ⟨D.gv,i*3,none⟩=some (.bool (decide ((T.b i).num<0)))∧W.cell? ⟨D.gv,i*3+1,none⟩=some (.string (nb (T.b i).num.natAbs))∧W.cell? ⟨D.gv,i*3+1+1,none⟩=some (.string (nb (T.b i).den))):=Lib.hid (fun W hb i hi=>((h.below hb).vals (by omega)).2 i hi)
 have hab2: ∀i,i<D.m→ab=some ⟨D.gb,0,none⟩:=fun i hi=>hab (by omega)
 have hav2: ∀i,i<D.m→av=some ⟨D.gv,0,none⟩:=fun i hi=>hav (by omega)
 clear h o hz hvb hvv hab hav
 have hmk:=Lib.hid (fun W=>run_mkR (D.n:Int) D.n rfl (by omega) W)
 go_enter Tryz.func40,Tryz.ntmps40
 have ag:=Below.refl w.heap.size w;have hmk1:=hmk.out w;obtain⟨c4,_⟩:=HC.out _ ag
 go_upto_region 2 with fail
 clear hmk hmk1 c4;have hX:=Row3.made w D.n;have ag:=ag.alloc (Nat.le_refl _) (.cells (zr3 D.n) 33);obtain⟨g,hg⟩: ∃g,g=w.heap.size:=⟨_,rfl⟩
 have kg:w.heap.size≤g:=by omega
 rw[←hg] at hX
 simp only[←hg]
 generalize w.alloc (.cells (zr3 D.n) 33)=W1 at*;clear hg
 go_wp2_with fail
 go_loopw [14] (fun s wr=> ∃j:Nat,j≤D.n∧s= .int .i64 j∧Row3 wr g D.n (fun x=>if x<j then q3 0 else z3)∧Below w.heap.size w wr) (fun s _=>D.n-(intOf s).toNat)
 case atStart=>exact⟨0,by omega,rfl,hX.congr (fun x _=>by rw[if_neg (by omega)]),ag⟩
 case round=>
  clear ag hX;obtain⟨j,hj,rfl,hX,ag⟩:=hrel
  by_cases hlt:j<D.n
  ·have hj0:(0:Int)≤(j:Int):=by omega
   have hj1:(j:Int)<(D.n:Int):=by omega
   obtain⟨_,_,_,z0,z1,z2⟩:=HC.out _ ag;obtain⟨cR0,cR1,cR2⟩:=hX.2 j hlt;have fR0:=hX.3 (j*3);have fR1:=hX.3 (j*3+1);have fR2:=hX.3 (j*3+1+1)
   go_wp2_with fail
   clear cR0 cR1 cR2 fR0 fR1 fR2 z0 z1 z2;have hX:=hX.put hlt (q3 z);have ag:=below_sto3 ag kg (i:=j) (q3 z);have hWS:sto3 wr g j (q3 z)=((wr.setCell ⟨g,j*3,none⟩ (.bool (decide (z.num<0)))).setCell ⟨g,j*3+1,none⟩ (.string (nb z.num.natAbs))).setCell ⟨g,j*3+1+1,none⟩ (.string (nb z.den)):=rfl;rw[hWS] at hX ag;clear hWS
   go_roundw
   case rel=>exact⟨j+1,by omega,by go_num,hX.congr (fun x hx=>by
    by_cases e:x=j
    ·subst e;rw[upd_same,if_pos (by omega),HZ.out]
    ·rw[upd_ne e]
     by_cases e2:x<j
     ·rw[if_pos e2,if_pos (by omega)]
     ·rw[if_neg e2,if_neg (by omega)]),ag⟩
   case measure=>simp[intOf];omega
  ·obtain rfl:j=D.n:=by omega
   obtain⟨c4,c5,_⟩:=HC.out _ ag
   go_wp2_with fail
   clear c4 c5
   go_loopw [30] (fun s wr=> ∃i:Nat,i≤D.m∧s= .int .i64 i∧Row3 wr g D.n (fun x=>q3 (Lp.bsol i T x))∧Below w.heap.size w wr) (fun s _=>D.m-(intOf s).toNat)
   case atStart=>exact⟨0,by omega,rfl,hX.congr (fun x hx=>by rw[if_pos hx];rfl),ag⟩
   case round=>
    clear ag hX;obtain⟨i,hi,rfl,hX,ag⟩:=hrel
    by_cases hlt2:i<D.m
    ·have hi0:(0:Int)≤(i:Int):=by omega
     have hi1:(i:Int)<(D.m:Int):=by omega
     obtain rfl:=hab2 i hlt2;obtain rfl:=hav2 i hlt2;obtain⟨c4,_,c9,_⟩:=HC.out _ ag;have cb0:=HBs.out _ ag i hlt2;obtain⟨v0,v1,v2⟩:=HVs.out _ ag i hlt2;have HNx:=Lib.hid (fun x=>bsol_succ hT hlt2 x);generalize T.bas i=j at*;generalize T.b i=y at*
     by_cases hjn:j<D.n
     ·have hj0:(0:Int)≤(j:Int):=by omega
      have hj1:(j:Int)<(D.n:Int):=by omega
      have hj2:decide ((j:Int)<(D.n:Int))=true:=decide_eq_true hj1;obtain⟨cR0,cR1,cR2⟩:=hX.2 j hjn;have fR0:=hX.3 (j*3);have fR1:=hX.3 (j*3+1);have fR2:=hX.3 (j*3+1+1)
      go_wp2_with fail
      clear cR0 cR1 cR2 fR0 fR1 fR2 v0 v1 v2 c4 c9 cb0;have hX:=hX.put hjn (q3 y);have ag:=below_sto3 ag kg (i:=j) (q3 y);have hWS:sto3 wr g j (q3 y)=((wr.setCell ⟨g,j*3,none⟩ (.bool (decide (y.num<0)))).setCell ⟨g,j*3+1,none⟩ (.string (nb y.num.natAbs))).setCell ⟨g,j*3+1+1,none⟩ (.string (nb y.den)):=rfl;rw[hWS] at hX ag;clear hWS
      go_roundw
      case rel=>exact⟨i+1,by omega,by go_num,hX.congr (fun x hx=>by
       rw[HNx.out]
       by_cases e:x=j
       ·subst e;rw[upd_same,if_pos rfl]
       ·rw[upd_ne e,if_neg e]),ag⟩
      case measure=>simp[intOf];omega
     ·have hj1: ¬(j:Int)<(D.n:Int):=by omega
      have hj2:decide ((j:Int)<(D.n:Int))=false:=decide_eq_false hj1
      go_wp2_with fail
      go_roundw
      case rel=>exact⟨i+1,by omega,by go_num,hX.congr (fun x hx=>by
       rw[HNx.out,if_neg (by omega)]),ag⟩
      case measure=>simp[intOf];omega
    ·obtain rfl:i=D.m:=by omega
     go_wp2_with fail
     go_ret
     exact⟨g,rfl,kg,hX,ag⟩
theorem climbTo_any (m n:Nat) (hm:m≤100) (hn:n≤5000) (A:Nat→Nat→Rat) (B C:Nat→Rat) (pa pb pc:Value) (w:World) (hA:MatR w pa m n A) (hB:SlR w pb m B) (hC:SlR w pc n C) (fit:Fit m n A B) (fg:FitG m n A B (Lp.cst n C)):
    Calls Tryz.prog 39 #[.agg #[pa,pb,pc]] w fun e w'=> ∃code T,Lp.SolP m n A B C code T∧Below w.heap.size w w'∧
      ((code=0∧∃D:TD,TDo D∧D.m=m∧D.n=n∧D.A=A∧D.B=B∧D.C=C∧TM D w' T (fun _=>false)∧w.heap.size≤D.w0.heap.size∧e= .returned (.tuple #[.pointer (some ⟨D.bt,0,none⟩),.int .i64 0]))∨
       (code=1∧e= .returned (.tuple #[.pointer none,.int .i64 16]))∨(code=2∧e= .returned (.tuple #[.pointer none,.int .i64 40]))):=by
  obtain⟨a0,c0,rfl⟩: ∃a c,pa= .slice a m c:=by obtain⟨a,c,e,_⟩:=hA;exact⟨a,c,e⟩
  obtain⟨a1,c1,rfl⟩: ∃a c,pb= .slice a m c:=by obtain⟨a,c,e,_⟩:=hB;exact⟨a,c,e⟩
  obtain⟨a2,c2,rfl⟩: ∃a c,pc= .slice a n c:=by obtain⟨a,c,e,_⟩:=hC;exact⟨a,c,e⟩
  have HS:=Lib.hid (fun W (hb:Below w.heap.size w W)=>start_any m n hm hn A B C _ _ _ W (hA.below hb) (hB.below hb) (hC.below hb));clear hA hB hC
  go_enter Tryz.func39,Tryz.ntmps39
  have⟨bP,ag⟩:=opn1 w [.slice a0 m c0,.slice a1 m c1,.slice a2 n c2] 29
  go_upto_region 1 with fail
  generalize w.alloc (.cells #[.slice a0 m c0,.slice a1 m c1,.slice a2 n c2] 29)=W0 at*;obtain⟨gP,hgP⟩: ∃g,g=w.heap.size:=⟨_,rfl⟩;rw[←hgP] at bP
  simp only[←hgP]
  have kgP:w.heap.size≤gP:=by omega
  clear hgP;have⟨cP0,fP0,cP1,fP1,cP2,fP2⟩:=bP.all3
  go_wp2_with fail
  clear cP0 fP0 cP1 fP1 cP2 fP2
  with_reducible refine(HS.out _ ag).mono ?_
  clear HS bP;have hsz:=ag.size;rintro e w1 ⟨D,o,hw0,rfl,rfl,rfl,rfl,rfl,rfl,hb1,hT⟩
  have hsD:w.heap.size≤D.w0.heap.size:=by rw[hw0];exact hsz
  replace ag:=ag.trans (hb1.mono hsz);clear hb1 hsz hw0;have hMl: ∀k,D.Mut k→w.heap.size≤k:=fun k hk=>Nat.le_trans hsD (o.ge hk);have HE:=Lib.hid (enterF_any D o w1 hT fit)
  go_wp2_with fail
  with_reducible refine HE.out.mono ?_
  rintro e w2 ⟨hoff,U,hPh,hTU,rfl⟩;clear HE hT
  replace ag:=ag.trans (hoff.below (B:=w.heap.size) (fun k hk hm=>by have:=hMl k hm;omega) ag.size)
  clear hoff
  cases hb:isBas D.m U (D.n+D.m) with
  | true=>
    go_wp2_with fail
    refine bodyPost_ret (v:=.tuple #[.pointer none,.int .i64 16]) (by simp[results,Tryz.results39,go_sem]) rfl ?_
    exact⟨1,U,.empty hPh (isBas_iff.1 hb),ag,.inr (.inl ⟨rfl,rfl⟩)⟩
  | false=>
    have hnb: ¬Lp.Bas D.m U (D.n+D.m):=fun h=>by rw[isBas_iff.2 h] at hb;cases hb
    have hway:=hPh.way;have HCl:=Lib.hid (climb_any D o U (fun _=>false) 42 #[.pointer (some ⟨D.bt,0,none⟩)] #[] (Lp.cst D.n D.C) w2 hTU hway gain_enters (gain_fn D o _ w2 hTU.tf) fg.s (fun i k hi=>fit.t i k hi) (fun k V hk=>fit.szT fg (hway.climb hk)));clear hb
    go_wp2_with fail
    with_reducible refine HCl.out.mono ?_
    rintro e w3 ⟨hoff,k,V,hcl,hTV,hres⟩;clear HCl hTU
    replace ag:=ag.trans (hoff.below (B:=w.heap.size) (fun k hk hm=>by have:=hMl k hm;omega) ag.size)
    clear hoff;unfold Clb at hcl;rw[alw_none] at hcl hres
    rcases hres with⟨rfl,hE⟩|⟨rfl,s,hF⟩
    · go_wp2_with fail
      refine bodyPost_ret (v:=.tuple #[.pointer (some ⟨D.bt,0,none⟩),.int .i64 0]) (by simp[results,Tryz.results39,go_sem]) rfl ?_
      exact⟨0,V,.ok hPh hnb hcl hE,ag,.inl ⟨rfl,D,o,rfl,rfl,rfl,rfl,rfl,hTV,hsD,rfl⟩⟩
    · go_wp2_with fail
      refine bodyPost_ret (v:=.tuple #[.pointer none,.int .i64 40]) (by simp[results,Tryz.results39,go_sem]) rfl ?_
      exact⟨2,V,.unb hPh hnb hcl hF,ag,.inr (.inr ⟨rfl,rfl⟩)⟩
theorem index_any (gc:Nat) (ec:Enters gc) (a:Option Addr) (m cap:Nat) (F:Nat→Rat) (Pr:Nat→Bool) (w:World) (h:SlO w (.slice a m cap) m F) (hm:m≤100000) (hP: ∀W i,i<m→Calls Tryz.prog gc #[rv (F i)] W fun e w'=>e= .returned (.bool (Pr i))∧Below W.heap.size W w'):
  Calls Tryz.prog 111 #[.slice a m cap,.func (.func gc) #[] #[]] w fun e w'=>(∃r:Int,e= .returned (.int .i64 r)∧((r= -1∧∀i,i<m→Pr i=false)∨(0≤r∧∃i,i<m∧Pr i=true)))∧Below w.heap.size w w':=by
 have ec: ∀args w,(callFunc gc args).run Tryz.prog w= .ok (.enter gc args) w:=ec;have HS:=Lib.hid (fun W (hb:Below w.heap.size w W)=>h.below hb);have HP:=Lib.hid hP;clear h hP
 go_enter Tryz.func111,Tryz.ntmps111
 have ag:=Below.refl w.heap.size w
 go_wp2_with fail
 go_loopw [8] (fun s wr=> ∃i:Nat,i≤m∧s= .int .i64 i∧(∀k,k<i→Pr k=false)∧Below w.heap.size w wr) (fun s _=>m-(intOf s).toNat)
 case atStart=>exact⟨0,by omega,rfl,fun k hk=>by omega,ag⟩
 case round=>
  clear ag;obtain⟨i,hi,rfl,hall,ag⟩:=hrel
  by_cases hlt:i<m
  ·have hi0:(0:Int)≤(i:Int):=by omega
   have hi1:(i:Int)<(m:Int):=by omega
   obtain⟨a',cap',e,h1⟩:=HS.out _ ag
   obtain⟨rfl,rfl⟩:a=a'∧cap=cap':=by simpa using e
   obtain⟨b,o,rfl,hr⟩:=h1 (by omega)
   obtain⟨c0,c1,c2⟩:=hr.2 i hlt;have HPi:=Lib.hid (fun W=>HP.out W i hlt)
   simp only[rv] at HPi
   clear e h1 hr
   go_wp2_with fail
   with_reducible refine(HPi.out _).mono ?_
   rintro e wX ⟨rfl,am⟩;have ag:=ag.tr am;clear am c0 c1 c2 HPi
   cases hp:Pr i with
   |true=>
    go_wp2_with fail
    go_ret
    exact⟨⟨(i:Int),rfl,.inr ⟨hi0,i,hlt,hp⟩⟩,ag⟩
   | false=>
    go_wp2_with fail
    go_roundw
    case rel=>exact⟨i+1,by omega,by go_num,fun k hk=>by
     by_cases e:k=i
     ·rw[e];exact hp
     ·exact hall k (by omega),ag⟩
    case measure=>simp[intOf];omega
  ·obtain rfl:i=m:=by omega
   go_wp2_with fail
   go_ret
   exact⟨⟨-1,rfl,.inl ⟨rfl,hall⟩⟩,ag⟩
theorem contains_any (gc:Nat) (ec:Enters gc) (a:Option Addr) (m cap:Nat) (F:Nat→Rat) (Pr:Nat→Bool) (w:World) (h:SlO w (.slice a m cap) m F) (hm:m≤100000) (hP: ∀W i,i<m→Calls Tryz.prog gc #[rv (F i)] W fun e w'=>e= .returned (.bool (Pr i))∧Below W.heap.size W w'):
  Calls Tryz.prog 85 #[.slice a m cap,.func (.func gc) #[] #[]] w fun e w'=>(∃b:Bool,e= .returned (.bool b)∧(b=true↔∃i,i<m∧Pr i=true))∧Below w.heap.size w w':=by
 have HI:=Lib.hid (index_any gc ec a m cap F Pr w h hm hP);clear h hP
 go_enter Tryz.func85,Tryz.ntmps85
 go_wp2_with fail
 with_reducible refine HI.out.mono ?_
 rintro e wX ⟨⟨r,rfl,hr⟩,am⟩
 rcases hr with⟨rfl,hr⟩|⟨h0,hr⟩
 ·go_wp2_with fail
  go_ret
  refine⟨⟨false,rfl,?_⟩,am⟩
  constructor
  ·intro h;cases h
  ·rintro ⟨i,hi,h⟩;rw[hr i hi] at h;cases h
 ·have hd:decide (0≤r)=true:=decide_eq_true h0
  go_wp2_with fail
  go_ret
  exact⟨⟨true,rfl,by simp[hr]⟩,am⟩
theorem aright_rv (q:Rat) (w:World) (hq:Sz q 134217728):Calls Tryz.prog 55 #[rv q] w fun e w'=>e= .returned (.bool true)∧Below w.heap.size w w':=by
 have:=aright_any (decide (q.num<0)) (nb q.num.natAbs) (nb q.den) w hq.n hq.d
 rwa [rawB_rat] at this
theorem ar1_any (q:Rat) (w:World) (hq:Sz q 134217728):Calls Tryz.prog 86 #[rv q] w fun e w'=>e= .returned (.bool false)∧Below w.heap.size w w':=by
 have HR:=Lib.hid (fun W=>aright_rv q W hq)
 simp only[rv] at HR
 unfold rv
 go_enter Tryz.func86,Tryz.ntmps86
 have⟨bA,ag⟩:=opn1 w [.bool (decide (q.num<0)),.string (nb q.num.natAbs),.string (nb q.den)] 33
 go_upto_region 1 with fail
 generalize w.alloc (.cells #[.bool (decide (q.num<0)),.string (nb q.num.natAbs),.string (nb q.den)] 33)=W0 at*;obtain⟨gA,hgA⟩: ∃g,g=w.heap.size:=⟨_,rfl⟩;rw[←hgA] at bA
 simp only[←hgA]
 have kgA:w.heap.size≤gA:=by omega
 clear hgA;have⟨cgA0,fA0,cA1,fA1,cgA2,fA2⟩:=bA.all3
 go_wp2_with fail
 clear cgA0 fA0 cA1 fA1 cgA2 fA2
 with_reducible refine(HR.out _).mono ?_
 rintro e wZ ⟨rfl,am⟩;replace ag:=ag.tr am;replace bA:=bA.below am;clear am
 go_wp2_with fail
 go_ret
 exact⟨rfl,ag⟩
theorem an1_any (q:Rat) (w:World):Calls Tryz.prog 88 #[rv q] w fun e w'=>e= .returned (.bool (decide (q<0)))∧Below w.heap.size w w':=by
 have hq:decide (q<0)=decide (q.num<0):=by rw[decide_eq_decide];exact num_lt.symm
 rw[hq];clear hq;unfold rv
 go_enter Tryz.func88,Tryz.ntmps88
 have⟨bA,ag⟩:=opn1 w [.bool (decide (q.num<0)),.string (nb q.num.natAbs),.string (nb q.den)] 33
 go_upto_region 1 with fail
 generalize w.alloc (.cells #[.bool (decide (q.num<0)),.string (nb q.num.natAbs),.string (nb q.den)] 33)=W0 at*;obtain⟨gA,hgA⟩: ∃g,g=w.heap.size:=⟨_,rfl⟩;rw[←hgA] at bA
 simp only[←hgA]
 have kgA:w.heap.size≤gA:=by omega
 clear hgA;have⟨cgA0,fA0,cA1,fA1,cgA2,fA2⟩:=bA.all3
 go_wp2_with fail
 go_ret
 exact⟨rfl,ag⟩
theorem ar1_enters:Enters 86:=enters_of Tryz.func86 (by kernel_rfl) rfl
theorem an1_enters:Enters 88:=enters_of Tryz.func88 (by kernel_rfl) rfl
theorem allrO_any (v:Value) (m:Nat) (F:Nat→Rat) (w:World) (h:SlO w v m F) (hm:m≤100000) (hF: ∀i,i<m→Sz (F i) 134217728):Calls Tryz.prog 54 #[v] w fun e w'=>e= .returned (.bool true)∧Below w.heap.size w w':=by
 obtain⟨a,cap,rfl⟩: ∃a cap,v= .slice a m cap:=by obtain⟨a,cap,e,_⟩:=h;exact⟨a,cap,e⟩
 have HI:=Lib.hid (contains_any 86 ar1_enters a m cap F (fun _=>false) w h hm (fun W i hi=>ar1_any (F i) W (hF i hi)));clear h hF
 go_enter Tryz.func54,Tryz.ntmps54
 go_wp2_with fail
 with_reducible refine HI.out.mono ?_
 rintro e wX ⟨⟨b,rfl,hb⟩,am⟩
 obtain rfl:b=false:=by
  cases b with
  |false=>rfl
  |true=>obtain⟨i,hi,h⟩:=hb.1 rfl;cases h
 clear hb
 go_wp2_with fail
 go_ret
 exact⟨rfl,am⟩
theorem anynO_any (v:Value) (m:Nat) (F:Nat→Rat) (w:World) (h:SlO w v m F) (hm:m≤100000):Calls Tryz.prog 56 #[v] w fun e w'=>(∃b:Bool,e= .returned (.bool b)∧(b=true↔∃i,i<m∧F i<0))∧Below w.heap.size w w':=by
 obtain⟨a,cap,rfl⟩: ∃a cap,v= .slice a m cap:=by obtain⟨a,cap,e,_⟩:=h;exact⟨a,cap,e⟩
 have HI:=Lib.hid (contains_any 88 an1_enters a m cap F (fun i=>decide (F i<0)) w h hm (fun W i hi=>an1_any (F i) W));clear h
 go_enter Tryz.func56,Tryz.ntmps56
 go_wp2_with fail
 with_reducible refine HI.out.mono ?_
 rintro e wX ⟨⟨b,rfl,hb⟩,am⟩
 have hb2:b=true↔∃i,i<m∧F i<0:=by simpa using hb
 clear hb
 go_wp2_with fail
 go_ret
 exact⟨⟨b,rfl,hb2⟩,am⟩
theorem allr_any(v:Value)(m:Nat)(F:Nat→Rat)(w:World)(h:SlR w v m F)(hm:m≤100000)(hF: ∀i,i<m→Sz (F i) 134217728):Calls Tryz.prog 54 #[v] w fun e w'=>e= .returned (.bool true)∧Below w.heap.size w w':=allrO_any v m F w h.o hm hF
structure PR (w:World) (p:Value) (m n:Nat) (A:Nat→Nat→Rat) (B C:Nat→Rat):Prop where
  ex: ∃pa pb pc,p= .agg #[pa,pb,pc]∧MatR w pa m n A∧SlR w pb m B∧SlR w pc n C
theorem PR.below {w w':World} {p:Value} {m n:Nat} {A:Nat→Nat→Rat} {B C:Nat→Rat} (h:PR w p m n A B C) (hb:Below w.heap.size w w'):PR w' p m n A B C:=by
 obtain⟨pa,pb,pc,e,h1,h2,h3⟩:=h.ex
 exact⟨pa,pb,pc,e,h1.below hb,h2.below hb,h3.below hb⟩
structure SzP (m n:Nat) (A:Nat→Nat→Rat) (B C:Nat→Rat) (k:Nat):Prop where
  a: ∀i j,i<m→j<n→Sz (A i j) k
  b: ∀i,i<m→Sz (B i) k
  c: ∀j,j<n→Sz (C j) k
theorem lright_any (p:Value) (m n:Nat) (A:Nat→Nat→Rat) (B C:Nat→Rat) (w:World) (h:PR w p m n A B C) (hm:m≤100) (hn:n≤5000) (hs:SzP m n A B C 134217728):
  Calls Tryz.prog 30 #[p] w fun e w'=>e= .returned (.bool true)∧Below w.heap.size w w':=by
 obtain⟨pa,pb,pc,rfl,hA,hB,hC⟩:=h.ex
 obtain⟨a0,c0,rfl⟩: ∃a c,pa= .slice a m c:=by obtain⟨a,c,e,_⟩:=hA;exact⟨a,c,e⟩
 obtain⟨a1,c1,rfl⟩: ∃a c,pb= .slice a m c:=by obtain⟨a,c,e,_⟩:=hB;exact⟨a,c,e⟩
 obtain⟨a2,c2,rfl⟩: ∃a c,pc= .slice a n c:=by obtain⟨a,c,e,_⟩:=hC;exact⟨a,c,e⟩
 have HMat:Hid (∀W,Below w.heap.size w W→∀i,i<m→∃b a2 cap2,a0=some ⟨b,0,none⟩∧W.cell? ⟨b,i,none⟩=some (.slice a2 n cap2)∧SlR W (.slice a2 n cap2) n (A i)):=Lib.hid (fun W hb i hi=>by
  obtain⟨a,cap,e,h1⟩:=hA.below hb
  obtain⟨b,e2,hbl,h2⟩:=h1 (by omega)
  obtain⟨vi,h3,h4⟩:=h2 i hi;obtain⟨a2,cap2,e3,_⟩:=id h4;subst e3
  obtain⟨rfl, -⟩:a0=a∧c0=cap:=by simpa using e
  exact⟨b,a2,cap2,e2,h3,h4⟩)
 have HRow:Hid (∀W a2 cap2 i,i<m→SlR W (.slice a2 n cap2) n (A i)→Calls Tryz.prog 54 #[.slice a2 n cap2] W fun e w'=>e= .returned (.bool true)∧Below W.heap.size W w'):=Lib.hid (fun W a2 cap2 i hi hr=>allr_any _ n (A i) W hr (by omega) (fun j hj=>hs.a i j hi hj))
 have HB:=Lib.hid (fun W (hb:Below w.heap.size w W)=>allr_any _ m B W (hB.below hb) (by omega) hs.b)
 have HC:=Lib.hid (fun W (hb:Below w.heap.size w W)=>allr_any _ n C W (hC.below hb) (by omega) hs.c)
 clear h hA hB hC hs
 have hm1: ¬(100:Int)<(m:Int):=by omega
 have hn1: ¬(5000:Int)<(n:Int):=by omega
 have hm2:decide ((100:Int)<(m:Int))=false:=decide_eq_false hm1;have hn2:decide ((5000:Int)<(n:Int))=false:=decide_eq_false hn1
 go_enter Tryz.func30,Tryz.ntmps30
 have⟨bP,ag⟩:=opn1 w [.slice a0 m c0,.slice a1 m c1,.slice a2 n c2] 29
 go_upto_region 1 with fail
 generalize w.alloc (.cells #[.slice a0 m c0,.slice a1 m c1,.slice a2 n c2] 29)=W0 at*;obtain⟨gP,hgP⟩: ∃g,g=w.heap.size:=⟨_,rfl⟩;rw[←hgP] at bP
 simp only[←hgP]
 have kgP:w.heap.size≤gP:=by omega
 clear hgP;have⟨cP0,fP0,cP1,fP1,cP2,fP2⟩:=bP.all3
 go_wp2_with fail
 clear cP0 fP0 cP1 fP1 cP2 fP2
 go_loopw [27] (fun s wr=> ∃i:Nat,i≤m∧s= .int .i64 i∧Rx wr gP [.slice a0 m c0,.slice a1 m c1,.slice a2 n c2]∧Below w.heap.size w wr) (fun s _=>m-(intOf s).toNat)
 case atStart=>exact⟨0,by omega,rfl,bP,ag⟩
 case round=>
  clear ag bP;obtain⟨i,hi,rfl,bP,ag⟩:=hrel
  by_cases hlt:i<m
  ·have hi0:(0:Int)≤(i:Int):=by omega
   have hi1:(i:Int)<(m:Int):=by omega
   obtain⟨b,a3,c3,rfl,ci,hrow⟩:=HMat.out _ ag i hlt;have HRi:=Lib.hid (fun W (hb:Below wr.heap.size wr W)=>HRow.out W a3 c3 i hlt (hrow.below hb));have hb0:=Below.refl wr.heap.size wr;have⟨cP0,fP0,cP1,fP1,cP2,fP2⟩:=bP.all3
   go_wp2_with fail
   clear cP0 fP0 cP1 fP1 cP2 fP2
   with_reducible refine(HRi.out _ hb0).mono ?_
   rintro e wX ⟨rfl,am⟩;replace bP:=bP.below am;replace ag:=ag.tr am;clear am ci hrow HRi hb0
   go_wp2_with fail
   go_roundw
   case rel=>exact⟨i+1,by omega,by go_num,bP,ag⟩
   case measure=>simp[intOf];omega
  ·obtain rfl:i=m:=by omega
   have⟨cP0,fP0,cP1,fP1,cP2,fP2⟩:=bP.all3
   go_wp2_with fail
   clear cP0 fP0 cP1 fP1 cP2 fP2
   with_reducible refine(HB.out _ ag).mono ?_
   rintro e wX ⟨rfl,am⟩;replace bP:=bP.below am;replace ag:=ag.tr am;clear am;have⟨cP0,fP0,cP1,fP1,cP2,fP2⟩:=bP.all3
   go_wp2_with fail
   clear cP0 fP0 cP1 fP1 cP2 fP2
   with_reducible refine(HC.out _ ag).mono ?_
   rintro e wY ⟨rfl,am⟩;replace ag:=ag.tr am
   go_wp2_with fail
   go_ret
   exact⟨rfl,ag⟩
end Go.Proofs.YtinmmkcjjlconaaGreat
namespace Go.Proofs.YtinmmkcjjlconaaGreat
open Go.RowKit W
open Pl (nb bv bv_nb nb_size_zero)
open Lp (S S_succ)
theorem Sz_bsol {m n:Nat} {A:Nat→Nat→Rat} {B:Nat→Rat} {T:Lp.Tab} (fit:Fit m n A B) (hw:Lp.Way m n A B T) (j:Nat):Sz (Lp.bsol m T j) 40000:=by
 by_cases hb:Lp.Bas m T j
 ·obtain⟨i,hi,rfl⟩:=hb
  have:Lp.bsol m T (T.bas i)=T.b i:=by
   unfold Lp.bsol;rw[Lp.S_single (k:=i) hi]
   ·rw[if_pos rfl]
   ·intro k hk hne
    rw[if_neg (fun e=>hne (hw.inv.inj hk hi e))]
  rw[this]
  exact fit.b T hw i hi
 ·rw[Lp.bsol_oth hb];exact Sz_zero.mono (by decide)
def solV(gx gy n m:Nat)(q:Rat):Value:=.agg #[.slice (some ⟨gx,0,none⟩) n n,.slice (some ⟨gy,0,none⟩) m m,.bool (decide (q.num<0)),.string (nb q.num.natAbs),.string (nb q.den)]
def solZ:Value:=.agg #[.slice none 0 0,.slice none 0 0,.bool false,.string ⟨#[]⟩,.string ⟨#[]⟩]
def SolRes (m n:Nat) (A:Nat→Nat→Rat) (B C:Nat→Rat) (w:World) (e:Ending) (w':World):Prop:=
  Below w.heap.size w w'∧∃code T,Lp.SolP m n A B C code T∧
    ((code=0∧∃gx gy,e= .returned (.tuple #[solV gx gy n m (S n (fun j=>C j*Lp.bsol m T j)),.int .i64 0])∧w.heap.size≤gx∧w.heap.size≤gy∧gx≠gy∧Row3 w' gx n (fun j=>q3 (Lp.bsol m T j))∧Row3 w' gy m (fun i=>q3 (Lp.ydual m n C T i)))∨
     (code=1∧e= .returned (.tuple #[solZ,.int .i64 16]))∨(code=2∧e= .returned (.tuple #[solZ,.int .i64 40])))
theorem solve_any (p:Value) (m n:Nat) (A:Nat→Nat→Rat) (B C:Nat→Rat) (w:World) (h:PR w p m n A B C) (hm:m≤100) (hn:n≤400) (hs:SzP m n A B C 40000) (fit:Fit m n A B) (fg:FitG m n A B (Lp.cst n C)):
  Calls Tryz.prog 14 #[p] w fun e w'=>SolRes m n A B C w e w':=by
 have HR:=Lib.hid (fun W (hb:Below w.heap.size w W)=>lright_any p m n A B C W (h.below hb) hm (by omega) ⟨fun i j hi hj=>(hs.a i j hi hj).mono (by decide),fun i hi=>(hs.b i hi).mono (by decide),fun j hj=>(hs.c j hj).mono (by decide)⟩)
 obtain⟨pa,pb,pc,rfl,hA,hB,hC⟩:=h.ex
 have HCl:=Lib.hid (fun W (hb:Below w.heap.size w W)=>climbTo_any m n hm (by omega) A B C pa pb pc W (hA.below hb) (hB.below hb) (hC.below hb) fit fg)
 obtain⟨a0,c0,rfl⟩: ∃a c,pa= .slice a m c:=by obtain⟨a,c,e,_⟩:=hA;exact⟨a,c,e⟩
 obtain⟨a1,c1,rfl⟩: ∃a c,pb= .slice a m c:=by obtain⟨a,c,e,_⟩:=hB;exact⟨a,c,e⟩
 obtain⟨a2,c2,rfl⟩: ∃a c,pc= .slice a n c:=by obtain⟨a,c,e,_⟩:=hC;exact⟨a,c,e⟩
 have HSC:=Lib.hid (fun W (hb:Below w.heap.size w W)=>hC.below hb);clear h hA hB hC
 go_enter Tryz.func14,Tryz.ntmps14
 have⟨bP,bR,ag⟩:=opn2 w [.slice a0 m c0,.slice a1 m c1,.slice a2 n c2] [.slice none 0 0,.slice none 0 0,.bool false,.string ⟨#[]⟩,.string ⟨#[]⟩] 29 35
 go_upto_region 1 with fail
 generalize (w.alloc (.cells #[.slice a0 m c0,.slice a1 m c1,.slice a2 n c2] 29)).alloc (.cells #[.slice none 0 0,.slice none 0 0,.bool false,.string ⟨#[]⟩,.string ⟨#[]⟩] 35)=W0 at*;generalize hgR:w.heap.size+1=gR at*;obtain⟨gP,hgP⟩: ∃g,g=w.heap.size:=⟨_,rfl⟩;rw[←hgP] at bP
 simp only[←hgP]
 have ngPgR:gP≠gR:=by omega
 have kgP:w.heap.size≤gP:=by omega
 have kgR:w.heap.size≤gR:=by omega
 clear hgP hgR;have⟨cP0,fP0,cP1,fP1,cP2,fP2⟩:=bP.all3
 go_wp2_with fail
 clear cP0 fP0 cP1 fP1 cP2 fP2
 with_reducible refine(HR.out _ ag).mono ?_
 rintro e wX ⟨rfl,am⟩;clear HR;replace ag:=ag.tr am;replace bP:=bP.below am;replace bR:=bR.below am;clear am;have⟨cP0,fP0,cP1,fP1,cP2,fP2⟩:=bP.all3
 go_wp2_with fail
 clear cP0 fP0 cP1 fP1 cP2 fP2
 with_reducible refine(HCl.out _ ag).mono ?_
 clear HCl;have hsz:=ag.size;rintro e wY ⟨code,T,hsol,am,hres⟩;replace ag:=ag.tr am;replace bP:=bP.below am;replace bR:=bR.below am;clear am
 rcases hres with⟨rfl,D,o,rfl,rfl,rfl,rfl,rfl,hT,hsD,rfl⟩|⟨rfl,rfl⟩|⟨rfl,rfl⟩
 ·skip
  have hway:=hsol.way.1;have hMl: ∀k,D.Mut k→w.heap.size≤k:=fun k hk=>Nat.le_trans (Nat.le_trans hsz hsD) (o.ge hk);have HSo:=Lib.hid (solution_any D o T (fun _=>false) wY hT hway.inv)
  go_wp2_with fail
  with_reducible refine HSo.out.mono ?_
  clear HSo;rintro e wZ ⟨gx,rfl,hgx,hX,am⟩;replace hT:=hT.below am;have kgx:w.heap.size≤gx:=Nat.le_trans ag.size hgx
  have ngRgx:gR≠gx:=by have:=bR.lt;omega
  clear hgx;replace ag:=ag.tr am;replace bP:=bP.below am;replace bR:=bR.below am;clear am
  have HPr:=Lib.hid (fun W (hb:Below wZ.heap.size wZ W)=>prices3_any D o T (fun _=>false) 42 #[.pointer (some ⟨D.bt,0,none⟩)] #[] (Lp.cst D.n D.C) W (hT.below hb) gain_enters ((gain_fn D o _ W (hT.below hb).tf).none) hway.inv.bas fg.s (fun i k hi hk=>fit.a T hway i _ hi (by omega)))
  have HAt1:=Lib.hid (fun W (hb:Below w.heap.size w W)=>at_call _ D.n D.C W (HSC.out W hb));have HAt2:Hid (∀W,Row3 W gx D.n (fun j=>q3 (Lp.bsol D.m T j))→_):=Lib.hid (fun W hr=>at_call (.slice (some ⟨gx,0,none⟩) D.n D.n) D.n (Lp.bsol D.m T) W ⟨_,_,rfl,fun _=>⟨gx,rfl,hr.row (fun _ _=>rfl)⟩⟩)
  have HDot:Hid (∀W B1 B2,Fn1 NoB 80 #[] #[.pointer (some ⟨B1,0,none⟩)] D.n D.C W→Fn1 NoB 80 #[] #[.pointer (some ⟨B2,0,none⟩)] D.n (Lp.bsol D.m T) W→_):=Lib.hid (fun W B1 B2 h1 h2=>dot_any D.n 40000 (by omega) (by omega) D.C (Lp.bsol D.m T) _ _ _ _ _ _ W at_enters at_enters h1 h2 hs.c (fun j _=>Sz_bsol fit hway j))
  simp only[rv] at HDot
  go_upto_region 7 with fail
  have hz0:=Below.refl wZ.heap.size wZ;replace ag:=ag.drew;replace bP:=bP.drew;replace bR:=bR.drew;replace hX:=hX.drew;replace hz0:=hz0.drew
  refine wp_schH (S:=(fun w'=>w'.cell? ⟨gP,2,none⟩=some (.slice a2 D.n c2))) (ps 0 4 (ps 5 4 (.p 10 (.c 4 (.c 9 (.c 11 (.c 12 (.p 13 (.c 14 (.p 15 .e)))))))))) [6,4,1,2] fun A WD hA aq=>?_
  simp only[←aq.out] at ag bP bR hX hz0
  clear aq
  refine⟨?_,fun ap=>?_⟩
  ·try dsimp only
   with_reducible exact bP.at 2 rfl
  repeat(refine isP ?_;refine tkO ?_)
  refine caO (HPr.out _ hz0) fun e wZ2 hz=>?_
  obtain⟨gy,rfl,hgy,hY,am⟩:=hz;have kgy:w.heap.size≤gy:=Nat.le_trans ag.size hgy
  have hxy:gx≠gy:=by have:=hX.1;omega
  have ngRgy:gR≠gy:=by have:=bR.lt;omega
  clear hgy hz0;replace ag:=ag.tr am;replace bP:=bP.below am;replace bR:=bR.below am;replace hX:=hX.below am;clear am
  refine⟨_,rfl,?_,?_⟩
  ·try dsimp only
   with_reducible exact bP.at 2 rfl
  refine caO (HAt1.out _ ag) fun e wZ hz=>?_
  obtain⟨B1,rfl,hf1,am⟩:=hz;replace ag:=ag.tr am;replace bP:=bP.below am;replace bR:=bR.below am;replace hX:=hX.below am;replace hY:=hY.below am;clear am
  refine⟨_,rfl,?_,?_⟩
  ·try dsimp only
   with_reducible exact bP.at 2 rfl
  refine caO (HAt2.out _ hX) fun e wZ hz=>?_
  obtain⟨B2,rfl,hf2,am⟩:=hz;replace ag:=ag.tr am;replace bP:=bP.below am;replace bR:=bR.below am;replace hX:=hX.below am;replace hY:=hY.below am;replace hf1:=hf1.below am;clear am
  refine⟨_,rfl,?_,?_⟩
  ·try dsimp only
   with_reducible exact bP.at 2 rfl
  refine caO (HDot.out _ B1 B2 hf1 hf2) fun e wZ hz=>?_
  obtain⟨rfl,am⟩:=hz;replace ag:=ag.tr am;replace bP:=bP.below am;replace bR:=bR.below am;replace hX:=hX.below am;replace hY:=hY.below am;replace hf1:=hf1.below am;replace hf2:=hf2.below am;clear am;clear hf1 hf2;generalize hq:S D.n (fun j=>D.C j*Lp.bsol D.m T j)=q at*;have HQ:=Lib.hid hq;clear hq
  refine⟨_,rfl,?_,?_⟩
  ·try dsimp only
   with_reducible exact bP.at 2 rfl
  repeat(refine isP ?_;refine tkO ?_)
  refine acO fun aa KK hF hK=>?_
  dsimp only[Fa] at hF
  have⟨cgR0,fgR0,cgR1,fgR1,cgR2,fgR2,cR3,fR3,cR4,fR4⟩:=bR.all5
  go_simp
  clear cgR0 fgR0 cgR1 fgR1 cgR2 fgR2 cR3 fR3 cR4 fR4;replace ag:=ag.setCell (p:=⟨gR,0,none⟩) kgR (.slice (some ⟨gx,0,none⟩) D.n D.n);replace bP:=bP.other (p:=⟨gR,0,none⟩) (Ne.symm ngPgR) (.slice (some ⟨gx,0,none⟩) D.n D.n);replace hX:=hX.other (p:=⟨gR,0,none⟩) ngRgx (.slice (some ⟨gx,0,none⟩) D.n D.n);replace hY:=hY.other (p:=⟨gR,0,none⟩) ngRgy (.slice (some ⟨gx,0,none⟩) D.n D.n)
  replace bR:=bR.put 0 (.slice (some ⟨gx,0,none⟩) D.n D.n) (by simp)
  simp only[List.set] at bR
  replace ag:=ag.setCell (p:=⟨gR,1,none⟩) kgR (.slice (some ⟨gy,0,none⟩) D.m D.m);replace bP:=bP.other (p:=⟨gR,1,none⟩) (Ne.symm ngPgR) (.slice (some ⟨gy,0,none⟩) D.m D.m);replace hX:=hX.other (p:=⟨gR,1,none⟩) ngRgx (.slice (some ⟨gy,0,none⟩) D.m D.m);replace hY:=hY.other (p:=⟨gR,1,none⟩) ngRgy (.slice (some ⟨gy,0,none⟩) D.m D.m)
  replace bR:=bR.put 1 (.slice (some ⟨gy,0,none⟩) D.m D.m) (by simp)
  simp only[List.set] at bR
  replace ag:=ag.setCell (p:=⟨gR,2,none⟩) kgR (.bool (decide (q.num<0)));replace bP:=bP.other (p:=⟨gR,2,none⟩) (Ne.symm ngPgR) (.bool (decide (q.num<0)));replace hX:=hX.other (p:=⟨gR,2,none⟩) ngRgx (.bool (decide (q.num<0)));replace hY:=hY.other (p:=⟨gR,2,none⟩) ngRgy (.bool (decide (q.num<0)))
  replace bR:=bR.put 2 (.bool (decide (q.num<0))) (by simp)
  simp only[List.set] at bR
  replace ag:=ag.setCell (p:=⟨gR,3,none⟩) kgR (.string (nb q.num.natAbs));replace bP:=bP.other (p:=⟨gR,3,none⟩) (Ne.symm ngPgR) (.string (nb q.num.natAbs));replace hX:=hX.other (p:=⟨gR,3,none⟩) ngRgx (.string (nb q.num.natAbs));replace hY:=hY.other (p:=⟨gR,3,none⟩) ngRgy (.string (nb q.num.natAbs))
  replace bR:=bR.put 3 (.string (nb q.num.natAbs)) (by simp)
  simp only[List.set] at bR
  replace ag:=ag.setCell (p:=⟨gR,4,none⟩) kgR (.string (nb q.den));replace bP:=bP.other (p:=⟨gR,4,none⟩) (Ne.symm ngPgR) (.string (nb q.den));replace hX:=hX.other (p:=⟨gR,4,none⟩) ngRgx (.string (nb q.den));replace hY:=hY.other (p:=⟨gR,4,none⟩) ngRgy (.string (nb q.den))
  replace bR:=bR.put 4 (.string (nb q.den)) (by simp)
  simp only[List.set] at bR
  generalize ((((wZ.setCell ⟨gR,0,none⟩ (.slice (some ⟨gx,0,none⟩) D.n D.n)).setCell ⟨gR,1,none⟩ (.slice (some ⟨gy,0,none⟩) D.m D.m)).setCell ⟨gR,2,none⟩ (.bool (decide (q.num<0)))).setCell ⟨gR,3,none⟩ (.string (nb q.num.natAbs))).setCell ⟨gR,4,none⟩ (.string (nb q.den))=WS at*
  (first|refine hK.out undef _ ?_ (fun ap=>?_)|(go_wp2_with fail;refine hK.out undef _ ?_ (fun ap=>?_)))
  ·try dsimp only
   with_reducible exact bP.at 2 rfl
  clear hK KK hF aa
  repeat(refine isP ?_;refine tkO ?_)
  refine enO hA ?_
  clear hA
  go_wp2_with fail
  have⟨cgR0,fgR0,cgR1,fgR1,cgR2,fgR2,cR3,fR3,cR4,fR4⟩:=bR.all5
  refine bodyPost_ret (v:=.tuple #[solV gx gy D.n D.m q,.int .i64 0]) (by simp[results,Tryz.results14,solV,go_sem,cgR0,cgR1,cgR2,cR3,cR4]) rfl ?_
  exact⟨ag,0,T,hsol,.inl ⟨rfl,gx,gy,by rw[HQ.out],kgx,kgy,hxy,hX,hY⟩⟩
 ·skip
  have⟨cgR0,fgR0,cgR1,fgR1,cgR2,fgR2,cR3,fR3,cR4,fR4⟩:=bR.all5
  go_wp2_with fail
  clear cgR0 fgR0 cgR1 fgR1 cgR2 fgR2 cR3 fR3 cR4 fR4;replace ag:=ag.setCell (p:=⟨gR,0,none⟩) kgR (.slice none 0 0)
  replace bR:=bR.put 0 (.slice none 0 0) (by simp)
  simp only[List.set] at bR
  replace ag:=ag.setCell (p:=⟨gR,1,none⟩) kgR (.slice none 0 0)
  replace bR:=bR.put 1 (.slice none 0 0) (by simp)
  simp only[List.set] at bR
  replace ag:=ag.setCell (p:=⟨gR,2,none⟩) kgR (.bool false)
  replace bR:=bR.put 2 (.bool false) (by simp)
  simp only[List.set] at bR
  replace ag:=ag.setCell (p:=⟨gR,3,none⟩) kgR (.string ⟨#[]⟩)
  replace bR:=bR.put 3 (.string ⟨#[]⟩) (by simp)
  simp only[List.set] at bR
  replace ag:=ag.setCell (p:=⟨gR,4,none⟩) kgR (.string ⟨#[]⟩)
  replace bR:=bR.put 4 (.string ⟨#[]⟩) (by simp)
  simp only[List.set] at bR
  have⟨cgR0,fgR0,cgR1,fgR1,cgR2,fgR2,cR3,fR3,cR4,fR4⟩:=bR.all5
  refine bodyPost_ret (v:=.tuple #[solZ,.int .i64 16]) (by simp[results,Tryz.results14,solZ,go_sem,cgR0,cgR1,cgR2,cR3,cR4]) rfl ?_
  exact⟨ag,1,T,hsol,.inr (.inl ⟨rfl,rfl⟩)⟩
 ·skip
  have⟨cgR0,fgR0,cgR1,fgR1,cgR2,fgR2,cR3,fR3,cR4,fR4⟩:=bR.all5
  go_wp2_with fail
  clear cgR0 fgR0 cgR1 fgR1 cgR2 fgR2 cR3 fR3 cR4 fR4;replace ag:=ag.setCell (p:=⟨gR,0,none⟩) kgR (.slice none 0 0)
  replace bR:=bR.put 0 (.slice none 0 0) (by simp)
  simp only[List.set] at bR
  replace ag:=ag.setCell (p:=⟨gR,1,none⟩) kgR (.slice none 0 0)
  replace bR:=bR.put 1 (.slice none 0 0) (by simp)
  simp only[List.set] at bR
  replace ag:=ag.setCell (p:=⟨gR,2,none⟩) kgR (.bool false)
  replace bR:=bR.put 2 (.bool false) (by simp)
  simp only[List.set] at bR
  replace ag:=ag.setCell (p:=⟨gR,3,none⟩) kgR (.string ⟨#[]⟩)
  replace bR:=bR.put 3 (.string ⟨#[]⟩) (by simp)
  simp only[List.set] at bR
  replace ag:=ag.setCell (p:=⟨gR,4,none⟩) kgR (.string ⟨#[]⟩)
  replace bR:=bR.put 4 (.string ⟨#[]⟩) (by simp)
  simp only[List.set] at bR
  have⟨cgR0,fgR0,cgR1,fgR1,cgR2,fgR2,cR3,fR3,cR4,fR4⟩:=bR.all5
  refine bodyPost_ret (v:=.tuple #[solZ,.int .i64 40]) (by simp[results,Tryz.results14,solZ,go_sem,cgR0,cgR1,cgR2,cR3,cR4]) rfl ?_
  exact⟨ag,2,T,hsol,.inr (.inr ⟨rfl,rfl⟩)⟩
end Go.Proofs.YtinmmkcjjlconaaGreat
