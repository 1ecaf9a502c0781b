/- Parts of the proofs about this seat's statements. -/
import Derived.Test.YtinmmkcjjlconaaGreatL1h
import Derived.Test.YtinmmkcjjlconaaGreatL1j
set_option maxRecDepth 100000
set_option maxHeartbeats 16000000
namespace Go.Proofs.YtinmmkcjjlconaaGreat
open Go.RowKit W Go.Shelf
open Pl (nb bv bv_nb nb_size_zero)
open Lp (S S_succ)
attribute [local go_sem] Oper.semAt_some
theorem Off.putNew {M:Nat→Prop} {w w':World} (h:Off M w w') {l:Nat} (hl:w.heap.size≤l) (o:Obj):Off M w (w'.putObj l o):=
 ⟨h.os,h.tape,h.output,by simpa using h.size,fun k hk hm=>(World.putObj_heap_other (by omega)).trans (h.block k hk hm)⟩
theorem yieldAt_wide {n k:Nat} {P:Program} {l l':Nat} {args:Array Value} {W:World} {R:Ending→World→Prop} (h:YieldAt Fence.wide n P l args W R):YieldAt (Fence.wide.inRound l') k P l args W R:=by
 obtain⟨fn,tmps,assign,body,h1,h2,h3⟩:=h
 exact⟨fn,tmps,assign,body,h1,h2,fun c cs _=>h3 c cs (fun d hd=>by cases hd)⟩
def cxs(l:List (Nat×Rat)):List Nat:=(l.filter (fun p=>decide (0<p.2))).map (·.1)
def encJ(j:Nat):Array Value:= #[.int .i64 (j:Int)]
theorem cxs_yes{l:List (Nat×Rat)}{p:Nat×Rat}(h:0<p.2):cxs (l++ [p])=cxs l++ [p.1]:=by simp[cxs,List.filter_append,h]
theorem cxs_no{l:List (Nat×Rat)}{p:Nat×Rat}(h: ¬0<p.2):cxs (l++ [p])=cxs l:=by simp[cxs,List.filter_append,h]
theorem cxs_pre {a b:List (Nat×Rat)} (h:a<+:b):cxs a<+:cxs b:=by
 obtain⟨t,rfl⟩:=h
 exact⟨cxs t,by simp[cxs,List.filter_append]⟩
def AxR(f:Nat→Nat→Rat→Act)(x:Nat×Rat)(B:Nat)(a':Act)(W:World):Prop:= ∃b,B≤b∧Rx W b [.bool (decide (x.2.num<0)),.string (nb x.2.num.natAbs),.string (nb x.2.den)]∧a'=f b x.1 x.2
theorem AxR.own {f:Nat→Nat→Rat→Act} (x:Nat×Rat) (B:Nat) (a':Act) (W W':World) (h:AxR f x B a' W) (ho:Off (fun k=>k<B) W W'):AxR f x B a' W':=by
 obtain⟨b,h1,h2,h3⟩:=h
 exact⟨b,h1,h2.off ho (by omega),h3⟩
theorem rxs_sz {keep:Nat→Bool} {c:Nat→Rat} {k:Nat}: ∀ {n:Nat},(∀j,j<n→Sz (c j) k)→∀p,p∈rxs keep c n→Sz p.2 k:=by
 intro n
 induction n with
 |zero=>intro _ p hp;simp[rxs] at hp
 | succ n ih=>
  intro h p hp
  cases hk:keep n with
  |true=>
   rw[rxs_yes hk] at hp
   simp only[List.mem_append,List.mem_singleton] at hp
   rcases hp with hp|rfl
   ·exact ih (fun j hj=>h j (by omega)) p hp
   ·exact h n (by omega)
  |false=>rw[rxs_no hk] at hp;exact ih (fun j hj=>h j (by omega)) p hp
theorem rcost_sz {D:TD} {T:Lp.Tab} {g:Nat→Rat} {j:Nat} (hm:D.m≤100) (sG:Sz (g j) 40000) (sY: ∀k,k<D.m→Sz (prc D T g k) 40000) (sA: ∀k,k<D.m→Sz (Lp.mat D.m D.n D.A k j) 40000):Sz (rcost D T g j) 134217728:=
 (Sz_sub sG (Sz_S (n:=D.m) (fun k hk=>Sz_mul (sY k hk) (sA k hk)) D.m (Nat.le_refl _))).mono (by omega)
theorem sgn_pos {q:Rat}:0<Rq.sgn q↔0<q:=by
 have h1:=Rq.sgn_cases q;have h2:=Rq.sgn_gt (q:=q);rw[←h2];omega
theorem cand_any (bt gc:Nat) (pc lc:Array Value) (w:World):Calls Tryz.prog 100 #[.pointer (some ⟨bt,0,none⟩),.func (.func gc) pc lc] w fun e w'=>e= .returned (.func (.func 125) #[] #[.pointer (some ⟨w.heap.size,0,none⟩),.pointer (some ⟨w.heap.size+1,0,none⟩)])∧w'=(w.alloc (.cells #[.pointer (some ⟨bt,0,none⟩)] 72)).alloc (.cells #[.func (.func gc) pc lc] 43):=by
 go_enter Tryz.func100,Tryz.ntmps100
 go_wp2
 go_ret
 exact⟨rfl,rfl⟩
theorem cand_seq (n:Nat) (hn:3≤n) (D:TD) (o:TDo D) (T:Lp.Tab) (bar:Nat→Bool) (gc:Nat) (pc lc:Array Value) (g:Nat→Rat) (w0:World) (M:Nat→Prop) (h:TM D w0 T bar) (hM: ∀k,D.Own k→¬M k) (ec:Enters gc) (hc:Fn1 M gc pc lc (D.n+D.m+1) g w0) (hb: ∀i,i<D.m→T.bas i<D.n+D.m+1) (Bt Bc:Nat) (h1:w0.cell? ⟨Bt,0,none⟩=some (.pointer (some ⟨D.bt,0,none⟩))) (h2:w0.cell? ⟨Bc,0,none⟩=some (.func (.func gc) pc lc)) (l1:Bt<w0.heap.size) (l2:Bc<w0.heap.size) (m1: ¬M Bt) (m2: ¬M Bc)
    (sG: ∀j,j<D.n+D.m+1→Sz (g j) 40000) (sT: ∀i k,i<D.m→k<D.m→Sz (T.a i (D.n+k)) 40000) (sA: ∀i k,i<D.m→Sz (Lp.mat D.m D.n D.A i k) 40000) (sY: ∀k,k<D.m→Sz (prc D T g k) 40000):
    SeqF Fence.wide n Tryz.prog 125 #[.pointer (some ⟨Bt,0,none⟩),.pointer (some ⟨Bc,0,none⟩)] encJ (cxs (rxs (rkeep D T bar) (rcost D T g) (D.n+D.m))) M w0:=by
  intro l J Jx O w hW hO hJ hJx hY h0
  have hws:=hW.size;have hT:=h.off hW hM;have c1:=(hW.cell (p:=⟨Bt,0,none⟩) l1 m1).trans h1;have c2:=(hW.cell (p:=⟨Bc,0,none⟩) l2 m2).trans h2;have l1:=Nat.lt_of_lt_of_le l1 hws;have l2:=Nat.lt_of_lt_of_le l2 hws;obtain⟨M',hM'⟩: ∃M':Nat→Prop,∀k,M' k↔k<w.heap.size∧(M k∨w0.heap.size≤k):=⟨_,fun _=>Iff.rfl⟩
  have hc':Fn1 M' gc pc lc (D.n+D.m+1) g w:=(hc.mono (M':=M') (fun k hk hm=>((hM' k).1 hm).2.elim id (fun e=>by omega)) (Nat.le_refl _)).later (hW.mono (fun k hk hm=>(hM' k).2 ⟨by omega,.inl hm⟩))
  have hMo: ∀k,D.Own k→¬M' k:=fun k hk hm=>((hM' k).1 hm).2.elim (hM k hk) (fun e=>by have:=h.own_lt hk;omega)
  have hOM: ∀k,O k→M' k∧k<w.heap.size:=fun k hk=>⟨(hM' k).2 ⟨(hO k hk).2,(hO k hk).1⟩,(hO k hk).2⟩
  have hN: ∀k,w.heap.size≤k→¬M' k:=fun k hk hm=>by have:=((hM' k).1 hm).1;omega
  clear hM' hc hM h h1 h2 m1 m2 hO hW hws
  refine callsIn_of_wp_marks Tryz.func125 rfl trivial ?_ rfl
  simp only[Tryz.ntmps125,List.size_toArray,List.length_cons,List.length_nil,Nat.reduceAdd,Nat.reduceSub,Array.replicate_succ,Array.replicate_zero,List.push_toArray,List.append_toArray,List.nil_append,List.cons_append]
  refine wpIn_wide.2 ?_
  have ag:=Below.refl w.heap.size w;have bY:Rx (w.alloc (.cells #[.func (.yield l) #[] #[]] 86)) w.heap.size [.func (.yield l) #[] #[]]:=Rx.new w _ rfl [.func (.yield l) #[] #[]] 86;replace ag:=ag.alloc (Nat.le_refl _) (.cells #[.func (.yield l) #[] #[]] 86);replace hT:=hT.alloc (.cells #[.func (.yield l) #[] #[]] 86);have hc':=hc'.alloc (.cells #[.func (.yield l) #[] #[]] 86)
  go_upto_region 1 with fail
  generalize w.alloc (.cells #[.func (.yield l) #[] #[]] 86)=WgY at*;have c1:=(ag.cell (p:=⟨Bt,0,none⟩) l1).trans c1;have c2:=(ag.cell (p:=⟨Bc,0,none⟩) l2).trans c2
  go_wp2_with fail
  clear c1 c2 l1 l2
  with_reducible refine(reduced_any D.bt gc pc lc _).mono ?_
  rintro e wC ⟨rfl,rfl⟩
  go_wp2_with fail
  have hT2:=hT;have hc2:=hc';clear hT hc';obtain⟨W2,hW2⟩: ∃W2,W2=(WgY.alloc (.cells #[.pointer (some ⟨D.bt,0,none⟩)] 72)).alloc (.cells #[.func (.func gc) pc lc] 43):=⟨_,rfl⟩;have b1:Rx W2 WgY.heap.size [.pointer (some ⟨D.bt,0,none⟩)]:=hW2▸(Rx.new WgY _ rfl [.pointer (some ⟨D.bt,0,none⟩)] 72).alloc _
  have b2:Rx W2 (WgY.heap.size+1) [.func (.func gc) pc lc]:=hW2▸Rx.new (WgY.alloc (.cells #[.pointer (some ⟨D.bt,0,none⟩)] 72)) _ (by simp) [.func (.func gc) pc lc] 43
  have hb2:Below WgY.heap.size WgY W2:=hW2▸((Below.refl WgY.heap.size WgY).alloc (Nat.le_refl _) _).alloc (by simp) _
  rw[←hW2];clear hW2;replace bY:=bY.below hb2;replace hT2:=hT2.below hb2;replace hc2:=hc2.below hb2;have hsY:=ag.size;replace ag:=ag.trans (hb2.mono hsY);clear hb2
  have hs2:w.heap.size≤WgY.heap.size+1:=by omega
  generalize WgY.heap.size+1=g2 at*;generalize WgY.heap.size=g1 at*;clear WgY
  have nY: ∀k,O k→k≠w.heap.size:=fun k hk e=>by have:=(hOM k hk).2;omega
  have hsz: ∀p,p∈rxs (rkeep D T bar) (rcost D T g) (D.n+D.m)→Sz p.2 134217728:=rxs_sz (fun j hj=>rcost_sz (by have:=o.hm;omega) (sG j (by omega)) sY (fun k hk=>sA k j hk))
  have hseq:=reduced_seq (n-1) (by omega) D o T bar gc pc lc g W2 M' hT2 hMo ec hc2 hb g1 g2 (b1.at 0 rfl) (b2.at 0 rfl) b1.lt b2.lt (hN g1 hsY) (hN g2 hs2) sG sT sA sY
  clear b1 b2 hT2 hc2 hMo hN hb sG sT sA sY o ec
  refine(wpIn_wide (n:=n)).1 ?_
  apply wpIn_rangeFunc_f (F:=Fence.wide) rfl (by omega) (gf:=120) (lb:= #[.pointer (some ⟨g1,0,none⟩),.pointer (some ⟨g2,0,none⟩)]) rfl trivial (enters_of Tryz.func120 (by kernel_rfl) rfl) hseq (Off.refl _ _) (fun _=>rfl)
    (fun pre=>J (cxs pre)) (fun c pre OI W=>c= .ret∧Jx (cxs pre) OI W) (fun s O' W W' h ho=>hJ _ _ _ _ h ho) (fun c s O' W W' h ho=>⟨h.1,hJx _ _ _ _ h.2 ho⟩) (O:=O) (fun k hk=>⟨.inl (hOM k hk).1,by have:=(hOM k hk).2;have:=ag.size;omega⟩) (hJ _ _ _ _ h0 (off_of ag))
    (AxR (fun b j q=> {tmps:= #[.func (.yield l) #[] #[],.pointer (some ⟨Bt,0,none⟩),.pointer (some ⟨Bc,0,none⟩),.pointer (some ⟨w.heap.size,0,none⟩),.int .i64 (j:Int),.pointer (some ⟨b,0,none⟩),.pointer (some ⟨D.bt,0,none⟩),.func (.func gc) pc lc,.func (.func 120) #[] #[.pointer (some ⟨g1,0,none⟩),.pointer (some ⟨g2,0,none⟩)],.int .i64 (j:Int),rv q,undef,undef,undef,undef,undef,undef,undef,undef,undef],defers:= []})) AxR.own
  case hassign=>
    intro l' x W K hK
    obtain⟨j,q⟩:=x
    simp only[encR,rv]
    gi_wp2
    have hbl:=(Below.refl W.heap.size W).alloc (Nat.le_refl _) (.cells #[.bool (decide (q.num<0)),.string (nb q.num.natAbs),.string (nb q.den)] 33)
    exact hK _ _ hbl ⟨W.heap.size,Nat.le_refl _,Rx.new W _ rfl [.bool (decide (q.num<0)),.string (nb q.num.natAbs),.string (nb q.den)] 33,rfl⟩
  case hbody=>
    rintro l' pre x a' B O1 W hpre hI hOB hBW hoff hgr ⟨b,hbB,rb,rfl⟩
    have hnb: ¬O1 b:=fun hm=>by have:=hOB b hm;omega
    have hY1:Rx W w.heap.size [.func (.yield l) #[] #[]]:=bY.off hoff (fun hm=>nY _ hm rfl)
    have hnY: ¬O1 w.heap.size:=fun hm=>by
      rcases(hgr _ hm).1 with h|h
      ·exact nY _ h rfl
      ·have:=bY.lt;omega
    have hsg:=sgn_pos (q:=x.2)
    have HS:=Lib.hid (fun W'=>asign_any x.2 W' (hsz x (hpre.subset (by simp))))
    have c0:=rb.at 0 rfl;have c1:=rb.at 1 rfl;have c2:=rb.at 2 rfl
    simp only[rv] at HS
    generalize hsq:Rq.sgn x.2=sg at*
    by_cases hp:0<x.2
    · have hd:decide (0<sg)=true:=decide_eq_true (hsg.2 hp)
      have hd0:0<sg:=hsg.2 hp;clear hsq hsg
      gi_wp2
      refine⟨trivial,fun _=>by omega,?_⟩
      with_reducible refine(CallsIn.inRound l' (callsIn_wide.2 (HS.out _))).mono ?_
      rintro e w1 ⟨rfl,hb1⟩;have cY:=(hY1.below hb1).at 0 rfl;have hI1:=hJ _ _ _ _ hI (off_of hb1)
      obtain⟨fn,tmps,assign,body,hy,hRd⟩:=yieldAt_wide (l':=l') (k:=n-1-1-1) (hY (cxs pre) x.1 O1 w1 (by rw[←cxs_yes hp];exact cxs_pre hpre) hI1 (((off_of ag).trans hoff).step hb1) (fun k hk=>⟨(hgr k hk).1.imp id (fun h=>Nat.le_trans ag.size h),Nat.lt_of_lt_of_le (hgr k hk).2 hb1.size⟩))
      simp only[encJ] at hy
      clear c0 c1 c2 hI1
      gi_wp2
      refine⟨fun _=>by omega,hRd.mono ?_⟩
      rintro e w3 ⟨ho3,O2,hg3,(⟨rfl,hj3⟩|⟨rfl,hj3⟩)⟩
      · gi_wp2
        exact⟨(off_of hb1).trans ho3,O2,fun k hk=>⟨(hg3 k hk).1.imp id (fun h=>Nat.le_trans hb1.size h),(hg3 k hk).2⟩,by show J (cxs (pre++ [x])) O2 w3;rw[cxs_yes hp];exact hj3⟩
      · gi_wp2
        exact⟨(off_of hb1).trans ho3,O2,fun k hk=>⟨(hg3 k hk).1.imp id (fun h=>Nat.le_trans hb1.size h),(hg3 k hk).2⟩,rfl,by rw[cxs_yes hp];exact hj3⟩
    · have hd:decide (0<sg)=false:=decide_eq_false (fun h=>hp (hsg.1 h))
      have hd0: ¬0<sg:=fun h=>hp (hsg.1 h);clear hsq hsg
      gi_wp2
      refine⟨trivial,fun _=>by omega,?_⟩
      with_reducible refine(CallsIn.inRound l' (callsIn_wide.2 (HS.out _))).mono ?_
      rintro e w1 ⟨rfl,hb1⟩
      gi_wp2
      repeat(refine⟨fun f hf=>(by cases hf),?_⟩;gi_wp2)
      exact⟨off_of hb1,O1,fun k hk=>⟨.inl hk,Nat.lt_of_lt_of_le (hgr k hk).2 hb1.size⟩,by show J (cxs (pre++ [x])) O1 w1;rw[cxs_no hp];exact hJ _ _ _ _ hI (off_of hb1)⟩
  case hdone=>
    intro D' O2 W hD ho hg hn hI hK
    clear hY
    go_wp2_with fail
    refine⟨by simp,.inl ⟨D',_,rfl,run_takeDeferred hK,?_⟩⟩
    refine⟨_,results_none rfl _ _ _,⟨_,rfl⟩,((off_of ag).trans ho).putNew (Nat.le_trans ag.size hD) _,O2,fun k hk=>⟨(hg k hk).1.imp id (fun h=>Nat.le_trans ag.size h),by simpa using (hg k hk).2⟩,.inl (hJ _ _ _ _ hI ((Off.refl (fun k=> ¬O2 k) W).putObj (l:=D') hn _))⟩
  case hstop=>
    rintro D' c pre O2 W hD ho hg hn hpre ⟨rfl,hI⟩ hK;clear hY
    refine wpIn_wide.2 ?_
    go_wp2_with fail
    refine⟨by simp,.inl ⟨D',_,rfl,run_takeDeferred hK,?_⟩⟩
    refine⟨_,results_none rfl _ _ _,⟨_,rfl⟩,((off_of ag).trans ho).putNew (Nat.le_trans ag.size hD) _,O2,fun k hk=>⟨(hg k hk).1.imp id (fun h=>Nat.le_trans ag.size h),by simpa using (hg k hk).2⟩,.inr ⟨_,cxs_pre hpre,hJx _ _ _ _ hI ((Off.refl (fun k=> ¬O2 k) W).putObj (l:=D') hn _)⟩⟩
end Go.Proofs.YtinmmkcjjlconaaGreat
namespace Go.Proofs.YtinmmkcjjlconaaGreat
open Go.RowKit W Go.Shelf
open Pl (nb bv bv_nb nb_size_zero)
open Lp (S S_succ)
attribute [local go_sem] Oper.semAt_some
theorem wp_loop_ix {P:Program} {Q:Exit→Act→World→Prop} {a:Act} {w:World} {c:Code} (I:Nat→Act→World→Prop) {n:Nat} (h0:I n a w)
  (round: ∀n a w,I n a w→c.wp P (Exit.then (fun a' w'=> ∃n',n'<n∧I n' a' w') Q) a w):(Code.loop c).wp P Q a w:=by
 classical
 have key: ∀a w,(∃n,I n a w)→∃n,I n a w∧∀k,I k a w→n≤k:=by
  rintro a w ⟨n,hn⟩
  induction n using Nat.strongRecOn with
  | _ n ih=>
   by_cases h: ∃k,k<n∧I k a w
   ·obtain⟨k,hk,hi⟩:=h
    exact ih k hk hi
   ·exact⟨n,hn,fun k hk=>Nat.le_of_not_lt fun hlt=>h ⟨k,hlt,hk⟩⟩
 refine wp_loop (fun a w=> ∃n,I n a w) (fun a w=>if h: ∃n,I n a w then(key a w h).choose else 0) ⟨n,h0⟩ ?_
 intro a w h
 obtain⟨h1,h2⟩:=(key a w h).choose_spec
 refine wp_mono (round _ a w h1) ?_
 intro e a' w' hq
 cases e with
 |normal=>
  obtain⟨n',hlt,hi⟩:=hq
  refine⟨⟨n',hi⟩,?_⟩
  have h': ∃n,I n a' w':=⟨n',hi⟩
  show(if h: ∃n,I n a' w' then(key a' w' h).choose else 0)<(if h: ∃n,I n a w then(key a w h).choose else 0)
  rw[dif_pos h',dif_pos h]
  exact Nat.lt_of_le_of_lt ((key a' w' h').choose_spec.2 n' hi) hlt
 |_=>exact hq
def mkd(D:Nat):Deferred:= {target:=.collected D,args:= #[]}
theorem leaves_marks {F:Fence} {n:Nat} {P:Program} {fn:Func} {tmps:Array Value} {R:Ending→World→Prop}: ∀(Ds:List Nat) (W:World),Ds.Nodup→(∀D,D∈Ds→W.heap[D]? =some (.deferred (some [])))→
  (∀W',Off (fun k=>k∈Ds) W W'→∃v,(results fn tmps).run P W'= .ok v W'∧R (.returned v) W')→LeavesInM F n P fn tmps R (Ds.map mkd) .returning W:=by
 intro Ds
 induction Ds with
 |nil=>intro W _ _ h;exact h W (Off.refl _ _)
 | cons D Ds ih=>
  intro W hn hd h
  have hn':=List.nodup_cons.1 hn
  have hoff:Off (fun k=>k∈D::Ds) W (W.putObj D (.deferred none)):=(Off.refl (fun k=>k∈D::Ds) W).putObj (l:=D) (by simp) _
  refine⟨by simp,.inl ⟨D,_,rfl,run_takeDeferred (hd D (by simp)),ih _ hn'.2 (fun k hk=>?_) (fun W' ho=>h W' ?_)⟩⟩
  ·rw[World.putObj_heap_other (by rintro rfl;exact hn'.1 hk)]
   exact hd k (by simp[hk])
  ·exact hoff.trans (ho.mono (fun k _ hk=>by simp[hk]))
theorem Off.more {M M2:Nat→Prop} {w A B:World} (h:Off M w A) (h2:Off M2 A B) (hM: ∀k,M2 k→M k∨w.heap.size≤k):Off M w B:=
 ⟨h2.os.trans h.os,h2.tape.trans h.tape,h2.output.trans h.output,Nat.le_trans h.size h2.size,fun k hk hm=>(h2.block k (Nat.lt_of_lt_of_le hk h.size) (fun h1=>by
  rcases hM k h1 with e|e
  ·exact hm e
  ·omega)).trans (h.block k hk hm)⟩
theorem cxs_none {keep:Nat→Bool} {c:Nat→Rat}: ∀ {n:Nat},cxs (rxs keep c n)= []→∀i,i<n→keep i=true→¬0<c i:=by
 intro n
 induction n with
 |zero=>intro _ i hi;omega
 | succ n ih=>
  intro h i hi hk hc
  cases hkn:keep n with
  | true=>
   rw[rxs_yes hkn] at h
   by_cases hp:0<c n
   ·rw[cxs_yes (p:=(n,c n)) hp] at h;simp at h
   ·rw[cxs_no (p:=(n,c n)) hp] at h
    by_cases e:i=n
    ·subst e;exact hp hc
    ·exact ih h i (by omega) hk hc
  |false=>
   rw[rxs_no hkn] at h
   by_cases e:i=n
   ·subst e;rw[hkn] at hk;cases hk
   ·exact ih h i (by omega) hk hc
theorem cxs_head {keep:Nat→Bool} {c:Nat→Rat} {j:Nat}: ∀ {n:Nat}, [j]<+:cxs (rxs keep c n)→j<n∧keep j=true∧0<c j∧∀i,i<j→keep i=true→¬0<c i:=by
 intro n
 induction n with
 |zero=>intro h;simp[rxs,cxs] at h
 | succ n ih=>
  intro h
  have old: [j]<+:cxs (rxs keep c n)→j<n+1∧keep j=true∧0<c j∧∀i,i<j→keep i=true→¬0<c i:=fun h=>by
   obtain⟨a,b⟩:=ih h
   exact⟨by omega,b⟩
  cases hkn:keep n with
  | true=>
   rw[rxs_yes hkn] at h
   by_cases hp:0<c n
   ·rw[cxs_yes (p:=(n,c n)) hp] at h
    cases hl:cxs (rxs keep c n) with
    |nil=>
     rw[hl] at h
     obtain rfl:j=n:=by simpa using h
     exact⟨by omega,hkn,hp,cxs_none hl⟩
    |cons x t=>
     rw[hl] at h
     apply old
     rw[hl]
     simpa using h
   ·rw[cxs_no (p:=(n,c n)) hp] at h;exact old h
  |false=>rw[rxs_no hkn] at h;exact old h
structure SzT (D:TD) (g:Nat→Rat) (U:Lp.Tab):Prop where
  a: ∀i j,i<D.m→j<D.n+D.m+1→Sz (U.a i j) 40000
  b: ∀i,i<D.m→Sz (U.b i) 40000
  y: ∀k,k<D.m→Sz (prc D U g k) 40000
abbrev Alw (D:TD) (bar:Nat→Bool):Nat→Prop:=Lp.alP D.m D.n (fun j=>bar j=true)
abbrev Clb (D:TD) (bar:Nat→Bool) (g:Nat→Rat) (k:Nat) (T U:Lp.Tab):Prop:=Lp.Climb D.m (D.n+D.m+1) (Lp.ordP (D.n+D.m)) (Alw D bar) g k T U
section
variable {D:TD} {bar:Nat→Bool} {g:Nat→Rat} {U:Lp.Tab}
theorem rcost_eq (hs:Lp.Src D.m D.n D.A D.B U) (j:Nat):rcost D U g j=(Lp.wc D.m U g).c j:=by
 show g j-S D.m (fun k=>S D.m (fun i=>g (U.bas i)*U.a i (D.n+k))*Lp.mat D.m D.n D.A k j)=g j-S D.m (fun i=>g (U.bas i)*U.a i j)
 rw[Lp.cost_eq hs]
theorem rkeep_iff {j:Nat}:rkeep D U bar j=true↔¬Lp.Bas D.m U j∧bar j=false:=by
 unfold rkeep;rw[Bool.and_eq_true,Bool.not_eq_true',Bool.not_eq_true',←isBas_iff,Bool.not_eq_true]
theorem end_of (w:Lp.Way D.m D.n D.A D.B U) (h:cxs (rxs (rkeep D U bar) (rcost D U g) (D.n+D.m))= []):Lp.End D.m (D.n+D.m+1) (Alw D bar) g U:=by
 rintro j _ ⟨hj,hb⟩
 by_cases hbas:Lp.Bas D.m U j
 ·rw[Lp.cost_basic w.inv hbas];exact Rat.le_refl
 ·have:=cxs_none h j hj (rkeep_iff.2 ⟨hbas,by simpa using hb⟩)
  rw[rcost_eq w.src] at this
  exact Rat.not_lt.1 this
theorem head_of (w:Lp.Way D.m D.n D.A D.B U) {j:Nat} (h: [j]<+:cxs (rxs (rkeep D U bar) (rcost D U g) (D.n+D.m))):
  j<D.n+D.m∧¬Lp.Bas D.m U j∧Alw D bar j∧0<(Lp.wc D.m U g).c j∧∀i,i<D.n+D.m+1→Alw D bar i→Lp.ordP (D.n+D.m) i<Lp.ordP (D.n+D.m) j→(Lp.wc D.m U g).c i≤0:=by
 obtain⟨h1,h2,h3,h4⟩:=cxs_head h;obtain⟨h5,h6⟩:=rkeep_iff.1 h2;rw[rcost_eq w.src] at h3
 refine⟨h1,h5,⟨h1,by simp[h6]⟩,h3,?_⟩
 rintro i _ ⟨hi,hb⟩ ho
 by_cases hbas:Lp.Bas D.m U i
 ·rw[Lp.cost_basic w.inv hbas];exact Rat.le_refl
 ·have hlt:i<j:=by
   unfold Lp.ordP at ho
   rw[if_neg (by omega),if_neg (by omega)] at ho
   omega
  have:=h4 i hlt (rkeep_iff.2 ⟨hbas,by simpa using hb⟩)
  rw[rcost_eq w.src] at this
  exact Rat.not_lt.1 this
end
theorem climb_any (D:TD) (o:TDo D) (T:Lp.Tab) (bar:Nat→Bool) (gc:Nat) (pc lc:Array Value) (g:Nat→Rat) (w:World) (h:TM D w T bar) (hway:Lp.Way D.m D.n D.A D.B T) (ec:Enters gc) (hc:Fn1 D.Mut gc pc lc (D.n+D.m+1) g w)
    (sG: ∀j,j<D.n+D.m+1→Sz (g j) 40000) (sA: ∀i k,i<D.m→Sz (Lp.mat D.m D.n D.A i k) 40000) (sU: ∀k U,Clb D bar g k T U→SzT D g U):
    Calls Tryz.prog 69 #[.pointer (some ⟨D.bt,0,none⟩),.func (.func gc) pc lc] w fun e w'=>Off D.Mut w w'∧∃k U,Clb D bar g k T U∧TM D w' U bar∧
      ((e= .returned (.bool true)∧Lp.End D.m (D.n+D.m+1) (Alw D bar) g U)∨(e= .returned (.bool false)∧∃s,Lp.Free D.m (D.n+D.m+1) (Lp.ordP (D.n+D.m)) (Alw D bar) g U s)):=by
  have hown: ∀k,D.Own k→k<w.heap.size:=fun k hk=>h.own_lt hk
  refine(callsIn_wide (n:=9)).1 ?_
  refine callsIn_of_wp_marks Tryz.func69 rfl trivial ?_ rfl
  simp only[Tryz.ntmps69,List.size_toArray,List.length_cons,List.length_nil,Nat.reduceAdd,Nat.reduceSub,Array.replicate_succ,Array.replicate_zero,List.push_toArray,List.append_toArray,List.nil_append,List.cons_append]
  refine wpIn_wide.2 ?_
  go_wp2_with fail
  refine wp_loop_ix (n:=2^(D.n+D.m+1)) (fun ix a W=> ∃k U Ds,ix+k=2^(D.n+D.m+1)∧Clb D bar g k T U∧TM D W U bar∧Off D.Mut w W∧Ds.Nodup∧(∀q,q∈Ds→w.heap.size≤q∧W.heap[q]? =some (.deferred (some [])))∧
    ∃x2 x3 x4 x5 x6 x7 x8 x9 x10 x11 x12 x13 x14 x15 x16 x17 x18 x19 x20 x21 x22 x23 x24 x25 x26 x27 x28:Value,a= {tmps:= #[.pointer (some ⟨D.bt,0,none⟩),.func (.func gc) pc lc,x2,x3,x4,x5,x6,x7,x8,x9,x10,x11,x12,x13,x14,x15,x16,x17,x18,x19,x20,x21,x22,x23,x24,x25,x26,x27,x28],defers:=Ds.map mkd})
    ⟨0,T, [],rfl,.refl T,h,Off.refl _ _,List.nodup_nil,fun q hq=>by simp at hq,undef,undef,.bool false,undef,undef,undef,undef,undef,undef,undef,undef,undef,undef,undef,undef,undef,undef,undef,undef,undef,undef,undef,undef,undef,undef,undef,undef,rfl⟩ ?_
  rintro ix a W ⟨k,U,Ds,hix,hcl,hU,hoW,hnd,hDs,x2,x3,x4,x5,x6,x7,x8,x9,x10,x11,x12,x13,x14,x15,x16,x17,x18,x19,x20,x21,x22,x23,x24,x25,x26,x27,x28,rfl⟩;have ag:=Below.refl W.heap.size W
  go_upto_region 2 with fail
  have hb5:Below W.heap.size W (W.alloc (.cells #[.int .i64 (-1)] 3)):=ag.alloc (Nat.le_refl _) _;have bE:Rx (W.alloc (.cells #[.int .i64 (-1)] 3)) W.heap.size [.int .i64 (-1)]:=Rx.new W _ rfl [.int .i64 (-1)] 3
  have hs5:W.heap.size<(W.alloc (.cells #[.int .i64 (-1)] 3)).heap.size:=by simp
  have hU1:=hU.below hb5
  have hc1:=((hc.later hoW).mono (M':=fun k=>k=W.heap.size) (fun k hk e=>by omega) (Nat.le_refl _)).below hb5
  clear ag;generalize W.alloc (.cells #[.int .i64 (-1)] 3)=W1 at*
  go_wp2_with fail
  with_reducible refine(cand_any D.bt gc pc lc _).mono ?_
  rintro e wC ⟨rfl,rfl⟩
  go_wp2_with fail
  obtain⟨W2,hW2⟩: ∃W2,W2=(W1.alloc (.cells #[.pointer (some ⟨D.bt,0,none⟩)] 72)).alloc (.cells #[.func (.func gc) pc lc] 43):=⟨_,rfl⟩;have b1:Rx W2 W1.heap.size [.pointer (some ⟨D.bt,0,none⟩)]:=hW2▸(Rx.new W1 _ rfl [.pointer (some ⟨D.bt,0,none⟩)] 72).alloc _
  have b2:Rx W2 (W1.heap.size+1) [.func (.func gc) pc lc]:=hW2▸Rx.new (W1.alloc (.cells #[.pointer (some ⟨D.bt,0,none⟩)] 72)) _ (by simp) [.func (.func gc) pc lc] 43
  have hb2:Below W1.heap.size W1 W2:=hW2▸((Below.refl W1.heap.size W1).alloc (Nat.le_refl _) _).alloc (by simp) _
  rw[←hW2];clear hW2;replace bE:=bE.below hb2;have hU2:=hU1.below hb2;have hc2:=hc1.below hb2;have hbW:=hb5.trans (hb2.mono (Nat.le_of_lt hs5))
  have n1: ¬W1.heap.size=W.heap.size:=by omega
  have n2: ¬W1.heap.size+1=W.heap.size:=by omega
  clear hb2 hb5 hU1 hc1 hs5;generalize W1.heap.size+1=g2 at*;generalize W1.heap.size=g1 at*;clear W1;have hwW:=hoW.size;have wayU:=hway.climb hcl;have szU:=sU k U hcl
  have hseq:=cand_seq 8 (by omega) D o U bar gc pc lc g W2 (fun k=>k=W.heap.size) hU2 (fun k hk e=>by have:=hown k hk;omega) ec hc2 wayU.inv.bas g1 g2 (b1.at 0 rfl) (b2.at 0 rfl) b1.lt b2.lt n1 n2 sG (fun i k hi hk=>szU.a i _ hi (by omega)) sA szU.y
  clear b1 b2 hc2 n1 n2
  refine(wpIn_wide (n:=9)).1 ?_
  apply wpIn_rangeFunc_f (F:=Fence.wide) rfl (by omega) (gf:=125) (lb:= #[.pointer (some ⟨g1,0,none⟩),.pointer (some ⟨g2,0,none⟩)]) rfl trivial (enters_of Tryz.func125 (by kernel_rfl) rfl) hseq (Off.refl _ _) (fun _=>rfl)
    (fun pre OI V=>pre= []∧OI W.heap.size∧Rx V W.heap.size [.int .i64 (-1)]) (fun c pre OI V=>c= .exit 2∧∃j:Nat,pre= [j]∧OI W.heap.size∧Rx V W.heap.size [.int .i64 (j:Int)])
    (fun s O' V V' h ho=>⟨h.1,h.2.1,h.2.2.off ho (fun e=>e h.2.1)⟩) (fun c s O' V V' h ho=>by obtain⟨e0,j,e1,e2,e3⟩:=h;exact⟨e0,j,e1,e2,e3.off ho (fun e=>e e2)⟩) (O:=fun k=>k=W.heap.size) (fun k hk=>⟨.inl hk,by have:=bE.lt;omega⟩) ⟨rfl,rfl,bE⟩
    (fun j _ a' _=>a'= {tmps:= #[.pointer (some ⟨D.bt,0,none⟩),.func (.func gc) pc lc,x2,x3,x4,.pointer (some ⟨W.heap.size,0,none⟩),.int .i64 (j:Int),x7,x8,.pointer (some ⟨D.bt,0,none⟩),.func (.func gc) pc lc,.func (.func 125) #[] #[.pointer (some ⟨g1,0,none⟩),.pointer (some ⟨g2,0,none⟩)],.int .i64 (j:Int),x13,x14,x15,x16,x17,x18,x19,x20,x21,x22,x23,x24,x25,x26,x27,x28],defers:= []}) (fun _ _ _ _ _ h _=>h)
  case hassign=>
    intro l' j V K hK
    simp only[encJ]
    gi_wp2
    exact hK _ _ (Below.refl _ _) rfl
  case hbody=>
    rintro l' pre j a' B O1 V hpre ⟨rfl,hO5,bV⟩ hOB hBV hoff hgr rfl;have c0:=bV.at 0 rfl;have f0:=bV.fr 0 rfl
    gi_wp2
    have bN:=bV.put 0 (.int .i64 (j:Int)) (by simp)
    simp only[List.set] at bN
    exact⟨(Off.refl O1 V).set (p:=⟨W.heap.size,0,none⟩) hO5 _,O1,fun k hk=>⟨.inl hk,by have:=(hgr k hk).2;simpa [World.setCell] using this⟩,rfl,j,rfl,hO5,bN⟩
  case hdone=>
    rintro q O2 V hq ho hg hn ⟨hnil,hO5,bV⟩ hK;have hEnd:=end_of wayU hnil
    have hTV:=hU2.off ho (fun k hk e=>by have:=hown k hk;omega)
    have hWV:=(off_of hbW (M:=fun k=>k=W.heap.size)).trans ho
    have hwV:=hoW.more hWV (fun k e=>.inr (by omega))
    have hDV: ∀D',D'∈q::Ds→w.heap.size≤D'∧V.heap[D']? =some (.deferred (some [])):=by
      intro D' hD'
      rcases List.mem_cons.1 hD' with rfl|hD'
      · have:=hbW.size
        exact⟨by omega,hK⟩
      · obtain⟨e1,e2⟩:=hDs D' hD'
        have:=(Array.getElem?_eq_some_iff.1 e2).1
        exact⟨e1,(hWV.block D' this (by omega)).trans e2⟩
    have hnd2:(q::Ds).Nodup:=List.nodup_cons.2 ⟨fun hm=>by have:=(Array.getElem?_eq_some_iff.1 (hDs q hm).2).1;have:=hbW.size;omega,hnd⟩
    have c0:=bV.at 0 rfl;clear hseq hc hU hU2 hDs hK
    go_wp2_with fail
    refine leaves_marks (q::Ds) V hnd2 (fun D' h=>(hDV D' h).2) (fun W' hW'=>⟨.bool true,by simp[results,Tryz.results69,go_sem],?_,k,U,hcl,?_,.inl ⟨rfl,hEnd⟩⟩)
    ·exact hwV.more hW' (fun k hk=>.inr (hDV k hk).1)
    ·exact hTV.off hW' (fun k hk hm=>by have:=hown k hk;have:=(hDV k hm).1;omega)
  case hstop=>
    rintro q c pre O2 V hq ho hg hn hpre ⟨rfl,j,rfl,hO5,bV⟩ hK;obtain⟨hjn,hnb,hal,hcp,hleast⟩:=head_of wayU hpre
    have hTV:=hU2.off ho (fun k hk e=>by have:=hown k hk;omega)
    have hWV:=(off_of hbW (M:=fun k=>k=W.heap.size)).trans ho
    have hwV:=hoW.more hWV (fun k e=>.inr (by omega))
    have hDV: ∀D',D'∈q::Ds→w.heap.size≤D'∧V.heap[D']? =some (.deferred (some [])):=by
      intro D' hD'
      rcases List.mem_cons.1 hD' with rfl|hD'
      · have:=hbW.size
        exact⟨by omega,hK⟩
      · obtain⟨e1,e2⟩:=hDs D' hD'
        have:=(Array.getElem?_eq_some_iff.1 e2).1
        exact⟨e1,(hWV.block D' this (by omega)).trans e2⟩
    have hnd2:(q::Ds).Nodup:=List.nodup_cons.2 ⟨fun hm=>by have:=(Array.getElem?_eq_some_iff.1 (hDs q hm).2).1;have:=hbW.size;omega,hnd⟩
    have c0:=bV.at 0 rfl
    have hj0: ¬(j:Int)<0:=by omega
    clear hseq hc hU hU2 hDs hK hWV ho hg hn
    refine wpIn_wide.2 ?_
    go_wp2_with fail
    have HD:=Lib.hid (direction_any D o U bar j V hTV sA (fun i k hi hk=>szU.a i _ hi (by omega)))
    with_reducible refine HD.out.mono ?_
    rintro e V1 ⟨gd,rfl,hgd,hrow,hb1⟩;clear HD c0;have hrow:RowF V1 gd D.m (fun i=>U.a i j):=hrow.congr (fun i hi=>wayU.src.a i j hi);have hT1:=hTV.below hb1
    have HL:=Lib.hid (leaving_any D o U bar j gd _ hT1 hrow (fun i k hi hk=>wayU.inv.inj hi hk) (fun i hi=>szU.a i j hi (by omega)) szU.b)
    go_wp2_with fail
    with_reducible refine HL.out.mono ?_
    rintro e V2 ⟨hcase,hb2⟩;clear HL;have hb12:=hb1.tr hb2;have hw2:=hwV.step hb12;have hsV:=hwV.size;have hD2: ∀D',D'∈q::Ds→w.heap.size≤D'∧V2.heap[D']? =some (.deferred (some [])):=fun D' h=>⟨(hDV D' h).1,(off_of (M:=fun _=>False) hb12).at (hDV D' h).2 (fun e=>e)⟩;have hrow:=hrow.below hb2;have hT2:=hT1.below hb2;have bV2:=bV.below hb12
    clear hT1 hTV hDV hwV bV
    rcases hcase with⟨rfl,hno⟩|⟨r,rfl,hbest⟩
    · go_wp2_with fail
      refine leaves_marks (q::Ds) V2 hnd2 (fun D' h=>(hD2 D' h).2) (fun W' hW'=>⟨.bool false,by simp[results,Tryz.results69,go_sem],?_,k,U,hcl,?_,.inr ⟨rfl,j,⟨by omega,hal,hcp,hleast,hno⟩⟩⟩)
      ·exact hw2.more hW' (fun k hk=>.inr (hD2 k hk).1)
      ·exact hT2.off hW' (fun k hk hm=>by have:=hown k hk;have:=(hD2 k hm).1;omega)
    · have hr0: ¬(r:Int)<0:=by omega
      have c0:=bV2.at 0 rfl
      have st:Lp.Step D.m (D.n+D.m+1) (Lp.ordP (D.n+D.m)) (Alw D bar) (Lp.wc D.m U g) r j:=⟨hbest.lt,by omega,hal,hcp,hleast,hbest.pos,hbest.ratio,hbest.tie⟩
      have HP:=Lib.hid (pivot_any D o U bar r j gd V2 hT2 hbest.lt (by omega) hrow (fun hm=>by have:=hown gd (TD.own_mut hm);omega) (fun i k hi hk=>wayU.inv.inj hi hk) wayU.inv.bas hnb (Rat.ne_of_gt hbest.pos) (fun i k hi hk=>szU.a i _ hi (by omega)) szU.b (fun i hi=>szU.a i j hi (by omega)))
      go_wp2_with fail
      with_reducible refine HP.out.mono ?_
      rintro e V3 ⟨⟨v,rfl⟩,hoP,hT3⟩;clear HP c0 hrow bV2 hT2
      go_wp2_with fail
      have hlt:=hcl.short hway.inv hway.pos (fun _ _=>Lp.ordP_inj)
      refine⟨ix-1,by omega,k+1,Lp.pivot U r j,q::Ds,by omega,.step hcl st,hT3,hw2.trans hoP,hnd2,fun D' h=>⟨(hD2 D' h).1,hoP.at (hD2 D' h).2 (fun hm=>?_)⟩,_,_,_,_,_,_,_,_,_,_,_,_,_,_,_,_,_,_,_,_,_,_,_,_,_,_,_,rfl⟩
      have:=hown D' (TD.own_mut hm);have:=(hD2 D' h).1
      omega
end Go.Proofs.YtinmmkcjjlconaaGreat
