/- Parts of the proofs about this seat's statements. -/
import Derived.Test.YtinmmkcjjlconaaGreatL1i
import Derived.RangeFuncBound
import Derived.RangeFuncLeaves
import Derived.Shelf.Abstract
import Derived.Shelf.RegionOpen
import Derived.OwnWalkIn
import Derived.TacticsInMore
import Derived.LoopNIn
import Derived.LoopIn
import Derived.RegionTactic
import Derived.BigRegion
set_option maxRecDepth 100000
set_option maxHeartbeats 16000000
namespace Go.Proofs.YtinmmkcjjlconaaGreat
open Go.RowKit W Go.Shelf
open Pl (nb bv bv_nb nb_size_zero)
open Lp (S S_succ)
attribute [local go_sem] Oper.semAt_some
def Cut9 (a:Act) (i1 i2 i3 i4 i5 i6 i7 i8 i9:Nat) (R:Value→World→Prop):Exit→Act→World→Prop
  | .normal,a',w'=> ∃t1 t2 t3 t4 t5 t6 t7 t8 t9:Value,a'= {tmps:=((((((((a.tmps.setIfInBounds i1 t1).setIfInBounds i2 t2).setIfInBounds i3 t3).setIfInBounds i4 t4).setIfInBounds i5 t5).setIfInBounds i6 t6).setIfInBounds i7 t7).setIfInBounds i8 t8).setIfInBounds i9 t9,defers:=a.defers}∧R t9 w'
  |_,_,_=>False
theorem wpIn_cut9 {F:Fence} {n:Nat} {P:Program} {c:Code} {Q:Exit→Act→World→Prop} {a:Act} {w:World} (i1 i2 i3 i4 i5 i6 i7 i8 i9:Nat) (R:Value→World→Prop)
  (h1:c.wpIn F n P (Cut9 a i1 i2 i3 i4 i5 i6 i7 i8 i9 R) a w)
  (h2: ∀(t1 t2 t3 t4 t5 t6 t7 t8 t9:Value) (w':World),R t9 w'→Q .normal {tmps:=((((((((a.tmps.setIfInBounds i1 t1).setIfInBounds i2 t2).setIfInBounds i3 t3).setIfInBounds i4 t4).setIfInBounds i5 t5).setIfInBounds i6 t6).setIfInBounds i7 t7).setIfInBounds i8 t8).setIfInBounds i9 t9,defers:=a.defers} w'):c.wpIn F n P Q a w:=
 wpIn_mono h1 (fun e a' w' h=>by
  cases e with
  |normal=>obtain⟨t1,t2,t3,t4,t5,t6,t7,t8,t9,rfl,hR⟩:=h;exact h2 t1 t2 t3 t4 t5 t6 t7 t8 t9 w' hR
  |_=>exact(h:False).elim)
def TD.Own(D:TD)(k:Nat):Prop:=k<D.w0.heap.size∨k=D.bt∨k=D.gk∨k=D.gr∨(0<D.m∧(k=D.gb∨k=D.gi∨k=D.gv))∨∃i,i<D.m∧k=D.gq i
theorem TM.own_lt {D:TD} {w:World} {T:Lp.Tab} {bar:Nat→Bool} (h:TM D w T bar) {k:Nat} (hk:D.Own k):k<w.heap.size:=by
 rcases hk with hk|rfl|rfl|rfl|⟨h0,rfl|rfl|rfl⟩|⟨i,hi,rfl⟩
 ·exact Nat.lt_of_lt_of_le hk h.old.size
 ·exact h.fix.lt
 ·exact h.basic.lt
 ·exact h.barred.lt
 ·exact(h.basis h0).lt
 ·exact(h.inv h0).lt
 ·exact(h.vals h0).lt
 ·exact(h.rows i hi).lt
theorem TM.off {D:TD} {M:Nat→Prop} {w w':World} {T:Lp.Tab} {bar:Nat→Bool} (h:TM D w T bar) (ho:Off M w w') (hM: ∀k,D.Own k→¬M k):TM D w' T bar:=
 ⟨h.old.trans (ho.below (B:=D.w0.heap.size) (fun k hk=>hM k (.inl hk)) h.old.size),h.fix.off ho (hM _ (.inr (.inl rfl))),fun h0=>(h.basis h0).off ho (hM _ (.inr (.inr (.inr (.inr (.inl ⟨h0,.inl rfl⟩)))))),h.basic.off ho (hM _ (.inr (.inr (.inl rfl)))),h.barred.off ho (hM _ (.inr (.inr (.inr (.inl rfl))))),fun h0=>(h.inv h0).off ho (hM _ (.inr (.inr (.inr (.inr (.inl ⟨h0,.inr (.inl rfl)⟩)))))),fun i hi=>(h.rows i hi).off ho (hM _ (.inr (.inr (.inr (.inr (.inr ⟨i,hi,rfl⟩)))))),fun h0=>(h.vals h0).off ho (hM _ (.inr (.inr (.inr (.inr (.inl ⟨h0,.inr (.inr rfl)⟩))))))⟩
theorem TD.own_mut {D:TD} {k:Nat} (h:D.Mut k):D.Own k:=by
 rcases h with rfl|⟨h0,rfl|rfl⟩|⟨i,hi,rfl⟩
 ·exact .inr (.inr (.inl rfl))
 ·exact .inr (.inr (.inr (.inr (.inl ⟨h0,.inl rfl⟩))))
 ·exact .inr (.inr (.inr (.inr (.inl ⟨h0,.inr (.inr rfl)⟩))))
 ·exact .inr (.inr (.inr (.inr (.inr ⟨i,hi,rfl⟩))))
def rxs (keep:Nat→Bool) (c:Nat→Rat):Nat→List (Nat×Rat)
  |0=> []
  |j+1=>if keep j then rxs keep c j++ [(j,c j)] else rxs keep c j
theorem rxs_yes{keep:Nat→Bool}{c:Nat→Rat}{j:Nat}(h:keep j=true):rxs keep c (j+1)=rxs keep c j++ [(j,c j)]:=by simp only[rxs,h,if_true]
theorem rxs_no{keep:Nat→Bool}{c:Nat→Rat}{j:Nat}(h:keep j=false):rxs keep c (j+1)=rxs keep c j:=by simp only[rxs,h];rfl
theorem rxs_pre (keep:Nat→Bool) (c:Nat→Rat) {a:Nat}: ∀ {b:Nat},a≤b→rxs keep c a<+:rxs keep c b:=by
  intro b
  induction b with
  | zero => intro h;obtain rfl:a=0:=by omega
            exact List.prefix_refl _
  | succ b ih=>
    intro h
    by_cases e:a=b+1
    ·subst e;exact List.prefix_refl _
    · refine(ih (by omega)).trans ?_
      cases hk:keep b with
      |true=>rw[rxs_yes hk];exact List.prefix_append _ _
      |false=>rw[rxs_no hk];exact List.prefix_refl _
def encR(p:Nat×Rat):Array Value:= #[.int .i64 (p.1:Int),rv p.2]
def prc(D:TD)(T:Lp.Tab)(g:Nat→Rat)(k:Nat):Rat:=S D.m (fun i=>g (T.bas i)*T.a i (D.n+k))
def rcost(D:TD)(T:Lp.Tab)(g:Nat→Rat)(j:Nat):Rat:=g j-S D.m (fun k=>prc D T g k*Lp.mat D.m D.n D.A k j)
def rkeep(D:TD)(T:Lp.Tab)(bar:Nat→Bool)(j:Nat):Bool:=!(isBas D.m T j)&& !(bar j)
structure RSt (M:Nat→Prop) (J:List (Nat×Rat)→(Nat→Prop)→World→Prop) (O:Nat→Prop) (w0 w:World) (gy m:Nat) (y:Nat→Rat) (xs:List (Nat×Rat)) (W:World):Prop where
  ex: ∃O1,J xs O1 W∧Grows O w O1 W∧¬O1 gy
  off:Off O w W
  old:Off M w0 W
  row:RowF W gy m y
section
variable {M:Nat→Prop} {J:List (Nat×Rat)→(Nat→Prop)→World→Prop} {O:Nat→Prop} {w0 w:World} {gy m:Nat} {y:Nat→Rat} {xs:List (Nat×Rat)} {W W':World}
theorem RSt.below (h:RSt M J O w0 w gy m y xs W) (hJ:Foot J) (hb:Below W.heap.size W W'):RSt M J O w0 w gy m y xs W':=by
 obtain⟨O1,h1,h2,h3⟩:=h.ex
 exact⟨⟨O1,hJ _ _ _ _ h1 (off_of hb),h2.mono hb.size,h3⟩,h.off.step hb,h.old.step hb,h.row.below hb⟩
theorem RSt.next {ys:List (Nat×Rat)} {O1 O2:Nat→Prop} (hO: ∀k,O k→(M k∨w0.heap.size≤k)∧k<w.heap.size) (h0:w0.heap.size≤w.heap.size) (hg:Grows O w O1 W) (hn: ¬O1 gy) (ho:Off O w W) (hold:Off M w0 W) (hr:RowF W gy m y)
  (h2:Off O1 W W') (hg2:Grows O1 W O2 W') (hJ:J ys O2 W'):RSt M J O w0 w gy m y ys W':=by
 refine⟨⟨O2,hJ,hg.trans ho.size hg2,fun hm=>?_⟩,ho.grow hg h2,hold.grow (fun k hm=>⟨?_,(hg k hm).2⟩) h2,hr.off h2 hn⟩
 ·rcases(hg2 _ hm).1 with h|h
  ·exact hn h
  ·have:=hr.1;omega
 ·rcases(hg k hm).1 with h|h
  ·exact(hO k h).1
  ·exact .inr (Nat.le_trans h0 h)
end
theorem reduced_any (bt gc:Nat) (pc lc:Array Value) (w:World):Calls Tryz.prog 97 #[.pointer (some ⟨bt,0,none⟩),.func (.func gc) pc lc] w fun e w'=>e= .returned (.func (.func 120) #[] #[.pointer (some ⟨w.heap.size,0,none⟩),.pointer (some ⟨w.heap.size+1,0,none⟩)])∧w'=(w.alloc (.cells #[.pointer (some ⟨bt,0,none⟩)] 72)).alloc (.cells #[.func (.func gc) pc lc] 43):=by
 go_enter Tryz.func97,Tryz.ntmps97
 go_wp2
 go_ret
 exact⟨rfl,rfl⟩
theorem reduced_seq (n:Nat) (hn1:1≤n) (D:TD) (o:TDo D) (T:Lp.Tab) (bar:Nat→Bool) (gc:Nat) (pc lc:Array Value) (g:Nat→Rat) (w0:World) (M:Nat→Prop) (h:TM D w0 T bar) (hM: ∀k,D.Own k→¬M k) (ec:Enters gc) (hc:Fn1 M gc pc lc (D.n+D.m+1) g w0) (hb: ∀i,i<D.m→T.bas i<D.n+D.m+1) (Bt Bc:Nat) (h1:w0.cell? ⟨Bt,0,none⟩=some (.pointer (some ⟨D.bt,0,none⟩))) (h2:w0.cell? ⟨Bc,0,none⟩=some (.func (.func gc) pc lc)) (l1:Bt<w0.heap.size) (l2:Bc<w0.heap.size) (m1: ¬M Bt) (m2: ¬M Bc)
  (sG: ∀j,j<D.n+D.m+1→Sz (g j) 40000) (sT: ∀i k,i<D.m→k<D.m→Sz (T.a i (D.n+k)) 40000) (sA: ∀i k,i<D.m→Sz (Lp.mat D.m D.n D.A i k) 40000) (sY: ∀k,k<D.m→Sz (prc D T g k) 40000):
  SeqF Fence.wide n Tryz.prog 120 #[.pointer (some ⟨Bt,0,none⟩),.pointer (some ⟨Bc,0,none⟩)] encR (rxs (rkeep D T bar) (rcost D T g) (D.n+D.m)) M w0:=by
 intro l J Jx O w hW hO hJ hJx hY h0
 have hm:=o.hm;have hn:=o.hn;have hws:=hW.size;obtain⟨ck,hvk⟩:=o.sk;obtain⟨cr,hvr⟩:=o.sr;have HT:Hid (∀W,Off M w0 W→TM D W T bar):=Lib.hid (fun W hb=>h.off hb hM);have HC:Hid (∀W,Off M w0 W→W.cell? ⟨D.bt,3,none⟩=some (.int .i64 (D.m:Int))∧W.cell? ⟨D.bt,4,none⟩=some (.int .i64 (D.n:Int))∧W.cell? ⟨D.bt,6,none⟩=some (.slice (some ⟨D.gk,0,none⟩) (D.n+D.m+1) ck)∧W.cell? ⟨D.bt,7,none⟩=some (.slice (some ⟨D.gr,0,none⟩) (D.n+D.m+1) cr)∧W.cell? ⟨Bt,0,none⟩=some (.pointer (some ⟨D.bt,0,none⟩))∧W.cell? ⟨Bc,0,none⟩=some (.func (.func gc) pc lc)):=Lib.hid (fun W hb=>⟨(h.off hb hM).fix.at 3 rfl,(h.off hb hM).fix.at 4 rfl,hvk▸(h.off hb hM).fix.at 6 rfl,hvr▸(h.off hb hM).fix.at 7 rfl,(hb.cell (p:=⟨Bt,0,none⟩) l1 m1).trans h1,(hb.cell (p:=⟨Bc,0,none⟩) l2 m2).trans h2⟩)
 have HK:Hid (∀W,Off M w0 W→∀j,j<D.n+D.m→W.cell? ⟨D.gk,j,none⟩=some (.bool (isBas D.m T j))∧W.cell? ⟨D.gr,j,none⟩=some (.bool (bar j))):=Lib.hid (fun W hb j hj=>⟨(h.off hb hM).basic.2 j (by omega),(h.off hb hM).barred.2 j (by omega)⟩)
 have HP:=Lib.hid (fun W hw=>prices_any D o T bar gc pc lc g W (HT.out W hw) ec (hc.later hw).none hb sG sT)
 have HCs:Hid (∀W j,j<D.n+D.m→Off M w0 W→Calls Tryz.prog gc (pc.push (.int .i64 (j:Int))++lc) W fun e w'=>e= .returned (rv (g j))∧Below W.heap.size W w'):=Lib.hid (fun W j hj hw=>hc W j (by omega) hw)
 have HDot:Hid (∀W B gJ j,Off M w0 W→Fn1 NoB 80 #[] #[.pointer (some ⟨B,0,none⟩)] D.m (prc D T g) W→W.cell? ⟨gJ,0,none⟩=some (.int .i64 ((j:Nat):Int))→gJ<W.heap.size→
   Calls Tryz.prog 43 #[.int .i64 (D.m:Int),.func (.func 80) #[] #[.pointer (some ⟨B,0,none⟩)],.func (.func 121) #[] #[.pointer (some ⟨Bt,0,none⟩),.pointer (some ⟨gJ,0,none⟩)]] W fun e w'=>e= .returned (rv (S D.m (fun k=>prc D T g k*Lp.mat D.m D.n D.A k j)))∧Below W.heap.size W w'):=
  Lib.hid (fun W B gJ j hw hf hj lj=>dot_any D.m 40000 (by omega) (by omega) (prc D T g) (fun k=>Lp.mat D.m D.n D.A k j) _ _ _ _ _ _ W at_enters elr_enters hf (elr_fn D o j Bt gJ W (HT.out W hw).tf ((hw.cell (p:=⟨Bt,0,none⟩) l1 m1).trans h1) hj (Nat.lt_of_lt_of_le l1 hw.size) lj) sY (fun k hk=>sA k j hk))
 have HSub:Hid (∀W j,j<D.n+D.m→Calls Tryz.prog 91 #[rv (g j),rv (S D.m (fun k=>prc D T g k*Lp.mat D.m D.n D.A k j))] W fun e w'=>e= .returned (rv (rcost D T g j))∧Below W.heap.size W w'):=Lib.hid (fun W j hj=>asub_any _ _ W ((sG j (by omega)).mono (by decide)) ((Sz_S (n:=D.m) (fun k hk=>Sz_mul (sY k hk) (sA k j hk)) D.m (Nat.le_refl _)).mono (by omega)))
 have hw:IntKind.i64.wrap ((D.n:Int)+(D.m:Int))=((D.n+D.m:Nat):Int):=by rw[IntKind.wrap_i64];omega
 have ec: ∀args w,(callFunc gc args).run Tryz.prog w= .ok (.enter gc args) w:=ec;have HKp:Hid (∀j,rkeep D T bar j=(!(isBas D.m T j)&& !(bar j))):=Lib.hid (fun _=>rfl);have HPr:Hid (∀k,S D.m (fun i=>g (T.bas i)*T.a i (D.n+k))=prc D T g k):=Lib.hid (fun _=>rfl)
 simp only[HPr.out] at HP
 clear HPr h HT hc hb h1 h2 l1 l2 m1 m2 hM sG sT sA sY o hvk hvr;generalize prc D T g=y at*;generalize rcost D T g=c at*;generalize hkp:rkeep D T bar=keep at*;clear hkp;generalize hNM:D.n+D.m=NM at HK HCs HSub hw hY⊢
 have hN1: ∀j,j<NM→(j:Int)<(D.n:Int)+(D.m:Int)+1:=fun j hj=>by omega
 have HN1:=Lib.hid hN1;clear hN1;have HN0:=Lib.hid hNM;clear hNM
 refine callsIn_of_wp Tryz.func120 rfl trivial ?_ rfl
 simp only[Tryz.ntmps120,List.size_toArray,List.length_cons,List.length_nil,Nat.reduceAdd,Nat.reduceSub,Array.replicate_succ,Array.replicate_zero,List.push_toArray,List.append_toArray,List.nil_append,List.cons_append]
 refine wpIn_wide.2 ?_
 obtain⟨s3,s4,s6,s7,sBt,sBc⟩:=HC.out _ hW
 go_wp2_with fail
 clear s3 s4 s6 s7 sBt sBc
 with_reducible refine(HP.out _ hW).mono ?_
 rintro e w1 ⟨gy,rfl,hgy,hy,hb1⟩
 have hR:RSt M J O w0 w gy D.m y (rxs keep c 0) w1:=⟨⟨O,hJ _ _ _ _ h0 (off_of hb1),fun k hk=>⟨.inl hk,by have:=(hO k hk).2;have:=hb1.size;omega⟩,fun hm=>by have:=(hO _ hm).2;omega⟩,off_of hb1,hW.step hb1,hy⟩
 clear hy hgy hb1 HP h0;have HB:Hid (∀W,Below w1.heap.size w1 W→Off M w0 W):=Lib.hid (fun W hb=>hR.old.step hb);have ag:=Below.refl w1.heap.size w1
 go_upto_region 1 with fail
 replace ag:=ag.drew
 refine wp_schH (S:=(fun w'=>w'.cell? ⟨Bt,0,none⟩=some (.pointer (some ⟨D.bt,0,none⟩))∧w'.cell? ⟨D.bt,3,none⟩=some (.int .i64 (D.m:Int))∧w'.cell? ⟨D.bt,4,none⟩=some (.int .i64 (D.n:Int)))) (ps 0 10 .e) [1] fun A WD hA aq=>?_
 simp only[←aq.out] at ag
 clear aq
 refine⟨?_,fun ap=>?_⟩
 ·try dsimp only
  with_reducible exact⟨(HC.out _ (HB.out _ ag)).2.2.2.2.1,(HC.out _ (HB.out _ ag)).1,(HC.out _ (HB.out _ ag)).2.1⟩
 repeat(refine isP ?_;refine tkO ?_)
 refine enO hA ?_
 clear hA;replace hR:=hR.below hJ ag;clear ag HB hw hW
 go_wp2_with fail
 go_loopw [19] (fun i wr=> ∃j:Nat,j≤NM∧i= .int .i64 j∧RSt M J O w0 w gy D.m y (rxs keep c j) wr) (fun i _=>NM-(intOf i).toNat)
 case atStart=>exact⟨0,by omega,rfl,hR⟩
 case round=>
  clear hR;obtain⟨j,hj,rfl,hR⟩:=hrel
  by_cases hlt:j<NM
  ·have hj0:(0:Int)≤(j:Int):=by omega
   have hj1:(j:Int)<(NM:Int):=by omega
   have hj2:=HN1.out j hlt;have HB:Hid (∀W,Below wr.heap.size wr W→Off M w0 W):=Lib.hid (fun W hb=>hR.old.step hb);obtain⟨wq,hwq,ag⟩: ∃wq,wq=wr∧Below wr.heap.size wr wq:=⟨wr,rfl,Below.refl _ _⟩;rw[←hwq];clear hwq;have HKj:=Lib.hid (fun W hw=>HK.out W hw j hlt);have HCj:=Lib.hid (fun W hw=>HCs.out W j hlt hw);have HSj:=Lib.hid (fun W=>HSub.out W j hlt)
   have HDj:=Lib.hid (fun W B gJ hw hf hc hl=>HDot.out W B gJ j hw hf hc hl);have HKk:=Lib.hid (HKp.out j);have HRow:Hid (∀W,Below wr.heap.size wr W→SlR W (.slice (some ⟨gy,0,none⟩) D.m D.m) D.m y):=Lib.hid (fun W hb=>⟨_,_,rfl,fun _=>⟨_,rfl,(hR.below hJ hb).row⟩⟩);have HAt:=Lib.hid (fun W hb=>at_call _ D.m y W (HRow.out W hb));clear HRow;have kgJ:=ag.size;replace ag:=ag.alloc ag.size (.cells #[.int .i64 (j:Int)] 3)
   have bJ:Rx (wq.alloc (.cells #[.int .i64 (j:Int)] 3)) wq.heap.size [.int .i64 (j:Int)]:=Rx.new wq _ rfl [.int .i64 (j:Int)] 3
   go_upto_region 4 with fail
   generalize wq.heap.size=gJ at*;generalize wq.alloc (.cells #[.int .i64 (j:Int)] 3)=WgJ at*
   cases hb1:isBas D.m T j with
   | true=>
    rw[hb1] at HKj HKk
    simp only[Bool.not_true,Bool.false_and] at HKk
    clear hb1 HCj HSj HDj HAt;replace ag:=ag.drew;replace bJ:=bJ.drew
    refine wp_schH (S:=(fun w'=>w'.cell? ⟨Bt,0,none⟩=some (.pointer (some ⟨D.bt,0,none⟩))∧w'.cell? ⟨D.bt,6,none⟩=some (.slice (some ⟨D.gk,0,none⟩) (D.n+D.m+1) ck)∧w'.cell? ⟨D.bt,7,none⟩=some (.slice (some ⟨D.gr,0,none⟩) (D.n+D.m+1) cr)∧w'.cell? ⟨gJ,0,none⟩=some (.int .i64 (j:Int))∧w'.cell? ⟨D.gk,j,none⟩=some (.bool true)∧w'.cell? ⟨D.gr,j,none⟩=some (.bool (bar j)))) (ps 0 8 (ks 8 7 (.p 15 .e))) [1,5] fun A WD hA aq=>?_
    simp only[←aq.out] at ag bJ
    clear aq
    refine⟨?_,fun ap=>?_⟩
    ·try dsimp only
     with_reducible exact⟨(HC.out _ (HB.out _ ag)).2.2.2.2.1,(HC.out _ (HB.out _ ag)).2.2.1,(HC.out _ (HB.out _ ag)).2.2.2.1,bJ.at 0 rfl,(HKj.out _ (HB.out _ ag)).1,(HKj.out _ (HB.out _ ag)).2⟩
    repeat first|(refine isP ?_;refine tkO ?_)|(refine isK ?_;refine skO ?_)
    refine enO hA ?_
    clear hA
    go_wp2_with fail
    go_roundw
    case rel=>exact⟨j+1,by omega,by go_num,by rw[rxs_no HKk.out];exact hR.below hJ ag⟩
    case measure=>simp[intOf];omega
   | false=>
    rw[hb1] at HKj HKk;clear hb1
    cases hb2:bar j with
    | true=>
     rw[hb2] at HKj HKk
     simp only[Bool.not_true,Bool.and_false] at HKk
     clear hb2 HCj HSj HDj HAt;replace ag:=ag.drew;replace bJ:=bJ.drew
     refine wp_schH (S:=(fun w'=>w'.cell? ⟨Bt,0,none⟩=some (.pointer (some ⟨D.bt,0,none⟩))∧w'.cell? ⟨D.bt,6,none⟩=some (.slice (some ⟨D.gk,0,none⟩) (D.n+D.m+1) ck)∧w'.cell? ⟨D.bt,7,none⟩=some (.slice (some ⟨D.gr,0,none⟩) (D.n+D.m+1) cr)∧w'.cell? ⟨gJ,0,none⟩=some (.int .i64 (j:Int))∧w'.cell? ⟨D.gk,j,none⟩=some (.bool false)∧w'.cell? ⟨D.gr,j,none⟩=some (.bool true))) (ps 0 16 .e) [1,5] fun A WD hA aq=>?_
     simp only[←aq.out] at ag bJ
     clear aq
     refine⟨?_,fun ap=>?_⟩
     ·try dsimp only
      with_reducible exact⟨(HC.out _ (HB.out _ ag)).2.2.2.2.1,(HC.out _ (HB.out _ ag)).2.2.1,(HC.out _ (HB.out _ ag)).2.2.2.1,bJ.at 0 rfl,(HKj.out _ (HB.out _ ag)).1,(HKj.out _ (HB.out _ ag)).2⟩
     repeat(refine isP ?_;refine tkO ?_)
     refine enO hA ?_
     clear hA
     go_wp2_with fail
     go_roundw
     case rel=>exact⟨j+1,by omega,by go_num,by rw[rxs_no HKk.out];exact hR.below hJ ag⟩
     case measure=>simp[intOf];omega
    | false=>
     rw[hb2] at HKj HKk
     simp only[Bool.not_false,Bool.and_self] at HKk
     clear hb2;replace ag:=ag.drew;replace bJ:=bJ.drew
     refine wp_schH (S:=(fun w'=>w'.cell? ⟨Bt,0,none⟩=some (.pointer (some ⟨D.bt,0,none⟩))∧w'.cell? ⟨D.bt,6,none⟩=some (.slice (some ⟨D.gk,0,none⟩) (D.n+D.m+1) ck)∧w'.cell? ⟨D.bt,7,none⟩=some (.slice (some ⟨D.gr,0,none⟩) (D.n+D.m+1) cr)∧w'.cell? ⟨gJ,0,none⟩=some (.int .i64 (j:Int))∧w'.cell? ⟨D.gk,j,none⟩=some (.bool false)∧w'.cell? ⟨D.gr,j,none⟩=some (.bool false))) (ps 0 16 .e) [1,5] fun A WD hA aq=>?_
     simp only[←aq.out] at ag bJ
     clear aq
     refine⟨?_,fun ap=>?_⟩
     ·try dsimp only
      with_reducible exact⟨(HC.out _ (HB.out _ ag)).2.2.2.2.1,(HC.out _ (HB.out _ ag)).2.2.1,(HC.out _ (HB.out _ ag)).2.2.2.1,bJ.at 0 rfl,(HKj.out _ (HB.out _ ag)).1,(HKj.out _ (HB.out _ ag)).2⟩
     repeat(refine isP ?_;refine tkO ?_)
     refine enO hA ?_
     clear hA
     go_upto_region 5 with fail
     clear HKj;generalize hpr:S D.m (fun k=>y k*Lp.mat D.m D.n D.A k j)=p at HSj HDj;clear hpr;generalize hgj:g j=q at HSj HCj;clear hgj
     simp only[rv] at HSj HDj HCj
     go_cut [6] (fun s6 wx=> ∃gP,s6= .pointer (some ⟨gP,0,none⟩)∧wr.heap.size≤gP∧Rx wx gJ [.int .i64 (j:Int)]∧Rx wx gP [.bool (decide (p.num<0)),.string (nb p.num.natAbs),.string (nb p.den)]∧Below wr.heap.size wr wx)
     case first=>
      replace ag:=ag.drew;replace bJ:=bJ.drew
      refine wp_schH (S:=(fun w'=>w'.cell? ⟨Bt,0,none⟩=some (.pointer (some ⟨D.bt,0,none⟩))∧w'.cell? ⟨D.bt,3,none⟩=some (.int .i64 (D.m:Int)))) (ps 0 5 (.p 6 (.b (.c 5 (.b (.c 7 (.c 8 (.c 9 .e))) (.c 8 (.c 7 (.c 9 .e))))) (.c 8 (.c 5 (.c 7 (.c 9 .e))))))) [1,4,5] fun A WD hA aq=>?_
      simp only[←aq.out] at ag bJ
      clear aq
      refine⟨?_,fun ap=>?_⟩
      ·try dsimp only
       with_reducible exact⟨(HC.out _ (HB.out _ ag)).2.2.2.2.1,(HC.out _ (HB.out _ ag)).1⟩
      repeat(refine isP ?_;refine tkO ?_)
      refine⟨?_,?_⟩
      ·refine caO (HAt.out _ ag) fun e wZ hz=>?_
       obtain⟨B,rfl,hf,am⟩:=hz;replace ag:=ag.tr am;replace bJ:=bJ.below am;clear am
       refine⟨_,rfl,?_,?_⟩
       ·try dsimp only
        with_reducible exact⟨(HC.out _ (HB.out _ ag)).2.2.2.2.1,(HC.out _ (HB.out _ ag)).1⟩
       refine⟨?_,?_⟩
       ·refine caO (HDj.out _ B gJ (HB.out _ ag) hf (bJ.at 0 rfl) bJ.lt) fun e wZ hz=>?_
        obtain⟨rfl,am⟩:=hz;replace ag:=ag.tr am;replace bJ:=bJ.below am;replace hf:=hf.below am;clear am;clear hf
        refine⟨_,rfl,?_,?_⟩
        ·try dsimp only
         with_reducible exact⟨(HC.out _ (HB.out _ ag)).2.2.2.2.1,(HC.out _ (HB.out _ ag)).1⟩
        refine acO fun aa KK hF hK=>?_
        dsimp only[Fa] at hF
        have kgP:=ag.size;replace ag:=ag.alloc ag.size (.cells #[.bool false,.string ⟨#[]⟩,.string ⟨#[]⟩] 33);have dgJ:=bJ.lt;replace bJ:=bJ.alloc (.cells #[.bool false,.string ⟨#[]⟩,.string ⟨#[]⟩] 33);have bP:Rx (wZ.alloc (.cells #[.bool false,.string ⟨#[]⟩,.string ⟨#[]⟩] 33)) wZ.heap.size [.bool false,.string ⟨#[]⟩,.string ⟨#[]⟩]:=Rx.new wZ _ rfl [.bool false,.string ⟨#[]⟩,.string ⟨#[]⟩] 33
        go_simp
        generalize wZ.heap.size=gP at*;generalize wZ.alloc (.cells #[.bool false,.string ⟨#[]⟩,.string ⟨#[]⟩] 33)=WgP at*
        have ngJgP:gJ≠gP:=by omega
        clear dgJ
        (first|refine hK.out _ _ ?_ (fun ap=>?_)|(go_wp2_with fail;refine hK.out _ _ ?_ (fun ap=>?_)))
        ·try dsimp only
         with_reducible exact⟨(HC.out _ (HB.out _ ag)).2.2.2.2.1,(HC.out _ (HB.out _ ag)).1⟩
        clear hK KK hF aa
        refine acO fun aa KK hF hK=>?_
        dsimp only[Fa] at hF
        have⟨cP0,fP0,cP1,fP1,cP2,fP2⟩:=bP.all3;replace ag:=((ag.setCell (p:=⟨gP,0,none⟩) kgP (.bool (decide (p.num<0)))).setCell (p:=⟨gP,1,none⟩) kgP (.string (nb p.num.natAbs))).setCell (p:=⟨gP,2,none⟩) kgP (.string (nb p.den));replace bJ:=(((bJ.other (p:=⟨gP,0,none⟩) (Ne.symm ngJgP) (.bool (decide (p.num<0)))).other (p:=⟨gP,1,none⟩) (Ne.symm ngJgP) (.string (nb p.num.natAbs))).other (p:=⟨gP,2,none⟩) (Ne.symm ngJgP) (.string (nb p.den)))
        replace bP:=bP.put3 (.bool (decide (p.num<0))) (.string (nb p.num.natAbs)) (.string (nb p.den))
        go_simp
        clear cP0 fP0 cP1 fP1 cP2 fP2;generalize ((WgP.setCell ⟨gP,0,none⟩ (.bool (decide (p.num<0)))).setCell ⟨gP,1,none⟩ (.string (nb p.num.natAbs))).setCell ⟨gP,2,none⟩ (.string (nb p.den))=WS at*
        (first|refine hK.out undef _ ?_ (fun ap=>?_)|(go_wp2_with fail;refine hK.out undef _ ?_ (fun ap=>?_)))
        ·try dsimp only
         with_reducible exact⟨(HC.out _ (HB.out _ ag)).2.2.2.2.1,(HC.out _ (HB.out _ ag)).1⟩
        clear hK KK hF aa
        refine enO hA ?_
        clear hA
        go_wp2_with fail
        go_meet
        exact⟨gP,rfl,kgP,bJ,bP,ag⟩
       refine acO fun aa KK hF hK=>?_
       dsimp only[Fa] at hF
       have kgP:=ag.size;replace ag:=ag.alloc ag.size (.cells #[.bool false,.string ⟨#[]⟩,.string ⟨#[]⟩] 33);have dgJ:=bJ.lt;replace bJ:=bJ.alloc (.cells #[.bool false,.string ⟨#[]⟩,.string ⟨#[]⟩] 33);replace hf:=hf.alloc (.cells #[.bool false,.string ⟨#[]⟩,.string ⟨#[]⟩] 33);have bP:Rx (wZ.alloc (.cells #[.bool false,.string ⟨#[]⟩,.string ⟨#[]⟩] 33)) wZ.heap.size [.bool false,.string ⟨#[]⟩,.string ⟨#[]⟩]:=Rx.new wZ _ rfl [.bool false,.string ⟨#[]⟩,.string ⟨#[]⟩] 33
       go_simp
       generalize wZ.heap.size=gP at*;generalize wZ.alloc (.cells #[.bool false,.string ⟨#[]⟩,.string ⟨#[]⟩] 33)=WgP at*
       have ngJgP:gJ≠gP:=by omega
       clear dgJ
       (first|refine hK.out _ _ ?_ (fun ap=>?_)|(go_wp2_with fail;refine hK.out _ _ ?_ (fun ap=>?_)))
       ·try dsimp only
        with_reducible exact⟨(HC.out _ (HB.out _ ag)).2.2.2.2.1,(HC.out _ (HB.out _ ag)).1⟩
       clear hK KK hF aa
       refine caO (HDj.out _ B gJ (HB.out _ ag) hf (bJ.at 0 rfl) bJ.lt) fun e wZ hz=>?_
       obtain⟨rfl,am⟩:=hz;replace ag:=ag.tr am;replace bJ:=bJ.below am;replace bP:=bP.below am;replace hf:=hf.below am;clear am;clear hf
       refine⟨_,rfl,?_,?_⟩
       ·try dsimp only
        with_reducible exact⟨(HC.out _ (HB.out _ ag)).2.2.2.2.1,(HC.out _ (HB.out _ ag)).1⟩
       refine acO fun aa KK hF hK=>?_
       dsimp only[Fa] at hF
       have⟨cP0,fP0,cP1,fP1,cP2,fP2⟩:=bP.all3;replace ag:=((ag.setCell (p:=⟨gP,0,none⟩) kgP (.bool (decide (p.num<0)))).setCell (p:=⟨gP,1,none⟩) kgP (.string (nb p.num.natAbs))).setCell (p:=⟨gP,2,none⟩) kgP (.string (nb p.den));replace bJ:=(((bJ.other (p:=⟨gP,0,none⟩) (Ne.symm ngJgP) (.bool (decide (p.num<0)))).other (p:=⟨gP,1,none⟩) (Ne.symm ngJgP) (.string (nb p.num.natAbs))).other (p:=⟨gP,2,none⟩) (Ne.symm ngJgP) (.string (nb p.den)))
       replace bP:=bP.put3 (.bool (decide (p.num<0))) (.string (nb p.num.natAbs)) (.string (nb p.den))
       go_simp
       clear cP0 fP0 cP1 fP1 cP2 fP2;generalize ((wZ.setCell ⟨gP,0,none⟩ (.bool (decide (p.num<0)))).setCell ⟨gP,1,none⟩ (.string (nb p.num.natAbs))).setCell ⟨gP,2,none⟩ (.string (nb p.den))=WS at*
       (first|refine hK.out undef _ ?_ (fun ap=>?_)|(go_wp2_with fail;refine hK.out undef _ ?_ (fun ap=>?_)))
       ·try dsimp only
        with_reducible exact⟨(HC.out _ (HB.out _ ag)).2.2.2.2.1,(HC.out _ (HB.out _ ag)).1⟩
       clear hK KK hF aa
       refine enO hA ?_
       clear hA
       go_wp2_with fail
       go_meet
       exact⟨gP,rfl,kgP,bJ,bP,ag⟩
      refine acO fun aa KK hF hK=>?_
      dsimp only[Fa] at hF
      have kgP:=ag.size;replace ag:=ag.alloc ag.size (.cells #[.bool false,.string ⟨#[]⟩,.string ⟨#[]⟩] 33);have dgJ:=bJ.lt;replace bJ:=bJ.alloc (.cells #[.bool false,.string ⟨#[]⟩,.string ⟨#[]⟩] 33);have bP:Rx (WD.alloc (.cells #[.bool false,.string ⟨#[]⟩,.string ⟨#[]⟩] 33)) WD.heap.size [.bool false,.string ⟨#[]⟩,.string ⟨#[]⟩]:=Rx.new WD _ rfl [.bool false,.string ⟨#[]⟩,.string ⟨#[]⟩] 33
      go_simp
      generalize WD.heap.size=gP at*;generalize WD.alloc (.cells #[.bool false,.string ⟨#[]⟩,.string ⟨#[]⟩] 33)=WgP at*
      have ngJgP:gJ≠gP:=by omega
      clear dgJ
      (first|refine hK.out _ _ ?_ (fun ap=>?_)|(go_wp2_with fail;refine hK.out _ _ ?_ (fun ap=>?_)))
      ·try dsimp only
       with_reducible exact⟨(HC.out _ (HB.out _ ag)).2.2.2.2.1,(HC.out _ (HB.out _ ag)).1⟩
      clear hK KK hF aa
      refine caO (HAt.out _ ag) fun e wZ hz=>?_
      obtain⟨B,rfl,hf,am⟩:=hz;replace ag:=ag.tr am;replace bJ:=bJ.below am;replace bP:=bP.below am;clear am
      refine⟨_,rfl,?_,?_⟩
      ·try dsimp only
       with_reducible exact⟨(HC.out _ (HB.out _ ag)).2.2.2.2.1,(HC.out _ (HB.out _ ag)).1⟩
      refine caO (HDj.out _ B gJ (HB.out _ ag) hf (bJ.at 0 rfl) bJ.lt) fun e wZ hz=>?_
      obtain⟨rfl,am⟩:=hz;replace ag:=ag.tr am;replace bJ:=bJ.below am;replace bP:=bP.below am;replace hf:=hf.below am;clear am;clear hf
      refine⟨_,rfl,?_,?_⟩
      ·try dsimp only
       with_reducible exact⟨(HC.out _ (HB.out _ ag)).2.2.2.2.1,(HC.out _ (HB.out _ ag)).1⟩
      refine acO fun aa KK hF hK=>?_
      dsimp only[Fa] at hF
      have⟨cP0,fP0,cP1,fP1,cP2,fP2⟩:=bP.all3;replace ag:=((ag.setCell (p:=⟨gP,0,none⟩) kgP (.bool (decide (p.num<0)))).setCell (p:=⟨gP,1,none⟩) kgP (.string (nb p.num.natAbs))).setCell (p:=⟨gP,2,none⟩) kgP (.string (nb p.den));replace bJ:=(((bJ.other (p:=⟨gP,0,none⟩) (Ne.symm ngJgP) (.bool (decide (p.num<0)))).other (p:=⟨gP,1,none⟩) (Ne.symm ngJgP) (.string (nb p.num.natAbs))).other (p:=⟨gP,2,none⟩) (Ne.symm ngJgP) (.string (nb p.den)))
      replace bP:=bP.put3 (.bool (decide (p.num<0))) (.string (nb p.num.natAbs)) (.string (nb p.den))
      go_simp
      clear cP0 fP0 cP1 fP1 cP2 fP2;generalize ((wZ.setCell ⟨gP,0,none⟩ (.bool (decide (p.num<0)))).setCell ⟨gP,1,none⟩ (.string (nb p.num.natAbs))).setCell ⟨gP,2,none⟩ (.string (nb p.den))=WS at*
      (first|refine hK.out undef _ ?_ (fun ap=>?_)|(go_wp2_with fail;refine hK.out undef _ ?_ (fun ap=>?_)))
      ·try dsimp only
       with_reducible exact⟨(HC.out _ (HB.out _ ag)).2.2.2.2.1,(HC.out _ (HB.out _ ag)).1⟩
      clear hK KK hF aa
      refine enO hA ?_
      clear hA
      go_wp2_with fail
      go_meet
      exact⟨gP,rfl,kgP,bJ,bP,ag⟩
     case rest=>
      clear bJ ag HAt HDj;obtain⟨gP,rfl,kgP,bJ,bP,ag⟩:=hcut
      go_upto_region 6 with fail
      obtain⟨O1,hj1,hg1,hn1⟩:=hR.ex;have hgw: ∀k,O1 k→k<wr.heap.size:=fun k hk=>(hg1 k hk).2;obtain⟨S0,hS0⟩: ∃S0:World→Prop,S0=fun w'=>w'.cell? ⟨Bc,0,none⟩=some (.func (.func gc) pc lc)∧w'.cell? ⟨gJ,0,none⟩=some (.int .i64 (j:Int))∧w'.cell? ⟨gP,0,none⟩=some (.bool (decide (p.num<0)))∧w'.cell? ⟨gP,1,none⟩=some (.string (nb p.num.natAbs))∧w'.cell? ⟨gP,2,none⟩=some (.string (nb p.den)):=⟨_,rfl⟩
      obtain⟨Q0,hQ,HQ,HCl,HF⟩: ∃Q0:World→Prop,Q0 wc∧Hid (∀w' w'',Q0 w'→Below w'.heap.size w' w''→Q0 w'')∧Hid (∀w',Q0 w'→Off M w0 w'∧S0 w')∧Hid (∀w',Q0 w'→Below wr.heap.size wr w'∧Rx w' gJ [.int .i64 (j:Int)]∧Rx w' gP [.bool (decide (p.num<0)),.string (nb p.num.natAbs),.string (nb p.den)]):=by
       refine⟨fun w'=>Below wr.heap.size wr w'∧Rx w' gJ [.int .i64 (j:Int)]∧Rx w' gP [.bool (decide (p.num<0)),.string (nb p.num.natAbs),.string (nb p.den)],?_,Lib.hid ?_,Lib.hid ?_,Lib.hid ?_⟩
       ·exact⟨ag,bJ,bP⟩
       ·rintro w' w'' ⟨x1,x2,x3⟩ hb'
        exact⟨x1.trans (hb'.mono x1.size),x2.below hb',x3.below hb'⟩
       ·rintro w' ⟨x1,x2,x3⟩
        rw[hS0]
        exact⟨HB.out _ x1,(HC.out _ (HB.out _ x1)).2.2.2.2.2,x2.at 0 rfl,x3.at 0 rfl,x3.at 1 rfl,x3.at 2 rfl⟩
       ·rintro w' x
        exact x
      have HYj:Hid (∀W,Q0 W→YieldAt Fence.wide (n-1) Tryz.prog l #[.int .i64 (j:Int),rv (c j)] W fun e W'=> ∃bb:Bool,e= .returned (.bool bb)∧S0 W'∧((bb=true∧RSt M J O w0 w gy D.m y (rxs keep c (j+1)) W')∨(bb=false∧Off O w W'∧∃O2,Grows O w O2 W'∧Jx (rxs keep c (j+1)) O2 W'))):=Lib.hid (fun W hW=>by
       obtain⟨hbw,rJ,rP⟩:=HF.out W hW;have hr:=hR.below hJ hbw;replace hg1:=hg1.mono hbw.size;have hj1:=hJ _ _ _ _ hj1 (off_of hbw)
       have hpre:rxs keep c j++ [(j,c j)]<+:rxs keep c NM:=by rw[←rxs_yes HKk.out];exact rxs_pre keep c (by omega)
       obtain⟨fn,tmps,assign,body,hy,hRd⟩:=hY (rxs keep c j) (j,c j) O1 W hpre hj1 hr.off hg1
       refine⟨fn,tmps,assign,body,hy,hRd.mono ?_⟩
       rintro e W' ⟨ho,O2,hg2,hcs⟩
       have hold2:Off M w0 W':=hr.old.grow (fun k hm=>⟨by
        rcases(hg1 k hm).1 with h|h
        ·exact(hO k h).1
        ·exact .inr (Nat.le_trans hws h),(hg1 k hm).2⟩) ho
       have hs2:S0 W':=by
        have n1: ¬O1 gJ:=fun hm=>by have h9:=hgw gJ hm;omega
        have n2: ¬O1 gP:=fun hm=>by have h9:=hgw gP hm;omega
        rw[hS0];replace rJ:=rJ.off ho n1;replace rP:=rP.off ho n2
        exact⟨(HC.out _ hold2).2.2.2.2.2,rJ.at 0 rfl,rP.at 0 rfl,rP.at 1 rfl,rP.at 2 rfl⟩
       rcases hcs with⟨rfl,hj2⟩|⟨rfl,hj2⟩
       ·exact⟨true,rfl,hs2,.inl ⟨rfl,RSt.next hO hws hg1 hn1 hr.off hr.old hr.row ho hg2 (by rw[rxs_yes HKk.out];exact hj2)⟩⟩
       ·exact⟨false,rfl,hs2,.inr ⟨rfl,hr.off.grow hg1 ho,O2,hg1.trans hr.off.size hg2,by rw[rxs_yes HKk.out];exact hj2⟩⟩)
      clear bJ bP ag hR HKk HB HK HCs HSub HDot HN1 HN0 hj1 hg1 hn1 hgw HF
      simp only[rv] at HYj
      refine(wpIn_wide (n:=n)).1 ?_
      refine wpIn_cut9 46 47 48 49 50 51 52 53 54 (fun t w'=> ∃bb:Bool,t= .bool (!bb)∧((bb=true∧RSt M J O w0 w gy D.m y (rxs keep c (j+1)) w')∨(bb=false∧Off O w w'∧∃O2,Grows O w O2 w'∧Jx (rxs keep c (j+1)) O2 w'))) ?_ ?_
      ·refine heldI (S:=S0) (by kernel_rfl) (fun hP WD aq=>?_) (fun _ _ _ _ _ h=>h)
       have hQ:Q0 WD:=HQ.out _ _ hQ (by rw[aq.out];exact(Below.refl _ _).drew)
       clear aq;obtain⟨hold,hS⟩:=HCl.out _ hQ
       refine⟨hS,fun ap=>?_⟩
       refine tkI (oi:=?_) (v:=?_) 0 rfl hP (by kernel_rfl) ?_ ?_ ?_ ?_ ap ?_;rotate_left 2
       (conv=>lhs;whnf;arg 1;whnf);kernel_rfl;(focus(intro w;rfl));focus(intro w hSw;replace hSw:=Eq.mp (congrFun hS0 w) hSw;(try dsimp only at hSw);go_simp;all_goals with_reducible rfl)
       simp only[Act.put,sqA,sqB,sqC]
       refine tkI (oi:=?_) (v:=?_) 1 rfl hP (by kernel_rfl) ?_ ?_ ?_ ?_ ap ?_;rotate_left 2
       (conv=>lhs;whnf;arg 1;whnf);kernel_rfl;(focus(intro w;rfl));focus(intro w hSw;replace hSw:=Eq.mp (congrFun hS0 w) hSw;(try dsimp only at hSw);go_simp;all_goals with_reducible rfl)
       simp only[Act.put,sqA,sqB,sqC]
       refine tkI (oi:=?_) (v:=?_) 2 rfl hP (by kernel_rfl) ?_ ?_ ?_ ?_ ap ?_;rotate_left 2
       (conv=>lhs;whnf;arg 1;whnf);kernel_rfl;(focus(intro w;rfl));focus(intro w hSw;replace hSw:=Eq.mp (congrFun hS0 w) hSw;(try dsimp only at hSw);go_simp;all_goals with_reducible rfl)
       simp only[Act.put,sqA,sqB,sqC]
       refine tkI (oi:=?_) (v:=?_) 3 rfl hP (by kernel_rfl) ?_ ?_ ?_ ?_ ap ?_;rotate_left 2
       (conv=>lhs;whnf;arg 1;whnf);kernel_rfl;(focus(intro w;rfl));focus(intro w hSw;replace hSw:=Eq.mp (congrFun hS0 w) hSw;(try dsimp only at hSw);go_simp;all_goals with_reducible rfl)
       simp only[Act.put,sqA,sqB,sqC]
       refine tkI (oi:=?_) (v:=?_) 5 rfl hP (by kernel_rfl) ?_ ?_ ?_ ?_ ap ?_;rotate_left 2
       (conv=>lhs;whnf;arg 1;whnf);kernel_rfl;(focus(intro w;rfl));focus(intro w hSw;replace hSw:=Eq.mp (congrFun hS0 w) hSw;(try dsimp only at hSw);go_simp;all_goals with_reducible rfl)
       simp only[Act.put,sqA,sqB,sqC]
       refine stI (oi:=?_) 4 (by kernel_rfl) ?_ (fun KK hK=>?_);rotate_left;(conv=>lhs;whnf;arg 1;whnf)
       go_simp
       refine⟨trivial,?_⟩
       with_reducible refine(callsIn_wide.2 (HCj.out _ hold)).mono ?_
       rintro e wX ⟨rfl,am⟩;replace hQ:=HQ.out _ _ hQ am;clear am hS hold;obtain⟨hold,hS⟩:=HCl.out _ hQ
       try simp only[]
       refine hK.out _ _ hS (fun hHeldN=>?_)
       replace ap:=hHeldN;clear hK KK hHeldN
       try simp only[Act.put,sqA,sqB,sqC]
       refine stI (oi:=?_) 6 (by kernel_rfl) ?_ (fun KK hK=>?_);rotate_left;(conv=>lhs;whnf;arg 1;whnf)
       go_simp
       refine⟨trivial,?_⟩
       with_reducible refine(callsIn_wide.2 (HSj.out _)).mono ?_
       rintro e wX ⟨rfl,am⟩;replace hQ:=HQ.out _ _ hQ am;clear am hS hold;obtain⟨hold,hS⟩:=HCl.out _ hQ
       try simp only[]
       refine hK.out _ _ hS (fun hHeldN=>?_)
       replace ap:=hHeldN;clear hK KK hHeldN
       try simp only[Act.put,sqA,sqB,sqC]
       obtain⟨fn,tmps,assign,body,hy,hRd⟩:=HYj.out _ hQ
       refine stI (oi:=?_) 7 (by kernel_rfl) ?_ (fun KK hK=>?_);rotate_left;(conv=>lhs;whnf;arg 1;whnf)
       go_simp
       refine hRd.mono ?_
       rintro e w3 ⟨bb,rfl,hS,hb3⟩
       try simp only[]
       refine hK.out _ _ hS (fun hHeldN=>?_)
       replace ap:=hHeldN;clear hK KK hHeldN
       try simp only[Act.put,sqA,sqB,sqC]
       clear hy hRd
       refine tkI (oi:=?_) (v:=?_) 8 rfl hP (by kernel_rfl) ?_ ?_ ?_ ?_ ap ?_;rotate_left 2
       (conv=>lhs;whnf;arg 1;whnf);kernel_rfl;(focus(intro w;rfl));focus(intro w hSw;replace hSw:=Eq.mp (congrFun hS0 w) hSw;(try dsimp only at hSw);go_simp;all_goals with_reducible rfl)
       simp only[Act.put,sqA,sqB,sqC]
       refine doneI (by kernel_rfl) ?_ _
       simp only[Cut9,List.setIfInBounds_toArray,List.set_cons_succ,List.set_cons_zero]
       exact⟨_,_,_,_,_,_,_,_,_,rfl,bb,rfl,hb3⟩
      ·rintro t1 t2 t3 t4 t5 t6 t7 t8 t9 w' ⟨bb,rfl,hh⟩
       clear HQ HCl hQ HYj HCj HSj
       simp only[List.setIfInBounds_toArray,List.set_cons_succ,List.set_cons_zero]
       rcases hh with⟨rfl,x1⟩|⟨rfl,x1,x2⟩
       ·go_wp2_with fail
        go_roundw
        case rel=>exact⟨j+1,by omega,by go_num,x1⟩
        case measure=>simp[intOf];omega
       ·go_wp2_with fail
        refine bodyPost_ret (results_none rfl _ _ _) rfl ?_
        obtain⟨O2,x2,x3⟩:=x2
        exact⟨⟨_,rfl⟩,x1,O2,x2,.inr ⟨_,rxs_pre keep c (by omega),x3⟩⟩
  ·obtain rfl:j=NM:=by omega
   go_wp2_with fail
   go_end0
   obtain⟨O1,hj1,hg1,_⟩:=hR.ex
   exact⟨⟨_,rfl⟩,hR.off,O1,hg1,.inl hj1⟩
end Go.Proofs.YtinmmkcjjlconaaGreat
