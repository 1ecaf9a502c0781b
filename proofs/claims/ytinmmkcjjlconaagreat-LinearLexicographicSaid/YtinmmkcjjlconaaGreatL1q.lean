/- Parts of the proofs about this seat's statements. -/
import Derived.Test.YtinmmkcjjlconaaGreatL1p
set_option maxRecDepth 100000
set_option maxHeartbeats 16000000
namespace Go.Proofs.YtinmmkcjjlconaaGreat
open Go.RowKit W
open Pl (nb)
section
variable {w w':World} {B:Nat} {v:Value} {l:List Raw} {M:Nat→Prop}
theorem Rats.off (h:Rats w B v l) (ho:Off M w w') (hm: ∀k,v.ownBlock=some k→¬M k):Rats w' B v l:=by
 rcases h.2 with⟨rfl,hn⟩|⟨g,cap,cur,rfl,hb2,hg,hnc,hcm,hcs,htake⟩
 ·exact⟨h.1,.inl ⟨rfl,hn⟩⟩
 ·exact⟨h.1,.inr ⟨g,cap,cur,rfl,hb2,ho.at hg (hm g rfl),hnc,hcm,hcs,htake⟩⟩
theorem Rats.slr {m:Nat} {F:Nat→Rat} (h:Rats w B v (_root_.Go.Proofs.YtinmmkcjjlconaaGreat.raws m F)):SlR w v m F:=by
 have h0:=h.raws;obtain⟨a,cap,e,h1⟩:=h0;rw[raws_len] at e
 refine⟨a,cap,e,fun h2=>?_⟩
 obtain⟨b,e2,hb,hc⟩:=h1 (by rw[raws_len];exact h2)
 refine⟨b,e2,hb,fun i hi=>?_⟩
 have:=hc i (by rw[raws_len];exact hi)
 rw[raws_get] at this
 exact this
end
structure LO (w0:World) (g:Nat) (cells:List Value) (vA:Value) (q:Nat) (rv_:Nat→Value) (R:Nat→List Raw) (vB:Value) (lB:List Raw) (vC:Value) (lC:List Raw) (vr:Value) (lr:List Raw) (lab:Nat→Nat) (W:World):Prop where
  old:Below w0.heap.size w0 W
  fix:Rx W g cells
  A:Vals 27 W w0.heap.size vA ((List.range q).map rv_)
  rows: ∀i,i<q→Rats W w0.heap.size (rv_ i) (R i)
  B:Rats W w0.heap.size vB lB
  C:Rats W w0.heap.size vC lC
  cur:Rats W w0.heap.size vr lr
  l1:lab g=1
  l2: ∀k,vA.ownBlock=some k→lab k=2
  l3: ∀k,vB.ownBlock=some k→lab k=3
  l4: ∀k,vC.ownBlock=some k→lab k=4
  l5: ∀k,vr.ownBlock=some k→lab k=5
  l6: ∀i,i<q→∀k,(rv_ i).ownBlock=some k→lab k=6+i
  fr: ∀k,lab k≠0→w0.heap.size≤k∧k<W.heap.size
section
variable {w0:World} {g:Nat} {cells:List Value} {vA:Value} {q:Nat} {rv_:Nat→Value} {R:Nat→List Raw} {vB:Value} {lB:List Raw} {vC:Value} {lC:List Raw} {vr:Value} {lr:List Raw} {lab:Nat→Nat} {W W':World} {M:Nat→Prop}
theorem LO.off (h:LO w0 g cells vA q rv_ R vB lB vC lC vr lr lab W) (ho:Off M W W') (hM: ∀k,lab k≠0→¬M k) (hM0: ∀k,k<w0.heap.size→¬M k):LO w0 g cells vA q rv_ R vB lB vC lC vr lr lab W':=by
 have n: ∀ {k c:Nat},lab k=c→c≠0→¬M k:=fun e hc=>hM _ (by omega)
 exact {h with
  old:=h.old.trans (ho.below hM0 h.old.size)
  fix:=h.fix.off ho (n h.l1 (by decide))
  A:=h.A.off ho (fun k hk=>n (h.l2 k hk) (by decide))
  rows:=fun i hi=>(h.rows i hi).off ho (fun k hk=>n (h.l6 i hi k hk) (by omega))
  B:=h.B.off ho (fun k hk=>n (h.l3 k hk) (by decide))
  C:=h.C.off ho (fun k hk=>n (h.l4 k hk) (by decide))
  cur:=h.cur.off ho (fun k hk=>n (h.l5 k hk) (by decide))
  fr:=fun k hk=>⟨(h.fr k hk).1,Nat.lt_of_lt_of_le (h.fr k hk).2 ho.size⟩}
theorem LO.below(h:LO w0 g cells vA q rv_ R vB lB vC lC vr lr lab W)(hb:Below W.heap.size W W'):LO w0 g cells vA q rv_ R vB lB vC lC vr lr lab W':=h.off (M:=NoB) (off_of hb) (fun _ _ e=>e) (fun _ _ e=>e)
theorem LO.drew(h:LO w0 g cells vA q rv_ R vB lB vC lC vr lr lab W):LO w0 g cells vA q rv_ R vB lB vC lC vr lr lab W.drew:=h.below (Below.refl _ _).drew
theorem LO.alloc(h:LO w0 g cells vA q rv_ R vB lB vC lC vr lr lab W)(o:Obj):LO w0 g cells vA q rv_ R vB lB vC lC vr lr lab (W.alloc o):=h.below ((Below.refl _ _).alloc (Nat.le_refl _) o)
theorem LO.init (hg:w0.heap.size≤g) (hold:Below w0.heap.size w0 W) (fix:Rx W g cells):LO w0 g cells (.slice none 0 0) 0 rv_ R (.slice none 0 0) [] (.slice none 0 0) [] (.slice none 0 0) [] (fun k=>if k=g then 1 else 0) W where
 old:=hold
 fix:=fix
 A:=Vals.nil _ _ _
 rows:=fun i hi=>by omega
 B:=Rats.nil _ _
 C:=Rats.nil _ _
 cur:=Rats.nil _ _
 l1:=if_pos rfl
 l2:=fun k hk=>by cases hk
 l3:=fun k hk=>by cases hk
 l4:=fun k hk=>by cases hk
 l5:=fun k hk=>by cases hk
 l6:=fun i hi=>by omega
 fr:=fun k hk=>by
  by_cases e:k=g
  ·subst e;exact⟨hg,fix.lt⟩
  ·simp[e] at hk
theorem LO.cell (h:LO w0 g cells vA q rv_ R vB lB vC lC vr lr lab W) (j:Nat) (v:Value) (hj:j<cells.length):LO w0 g (cells.set j v) vA q rv_ R vB lB vC lC vr lr lab (W.setCell ⟨g,j,none⟩ v):=by
 have ho:Off (fun k=>k=g) W (W.setCell ⟨g,j,none⟩ v):=(Off.refl (fun k=>k=g) W).set (p:=⟨g,j,none⟩) rfl v
 have n: ∀ {k c:Nat},lab k=c→c≠1→¬k=g:=fun e hc e2=>hc (by rw[←e,e2];exact h.l1)
 have hg:=(h.fr g (by rw[h.l1];decide)).1
 exact {h with
  old:=h.old.setCell (p:=⟨g,j,none⟩) hg v
  fix:=h.fix.put j v hj
  A:=h.A.off ho (fun k hk=>n (h.l2 k hk) (by decide))
  rows:=fun i hi=>(h.rows i hi).off ho (fun k hk=>n (h.l6 i hi k hk) (by omega))
  B:=h.B.off ho (fun k hk=>n (h.l3 k hk) (by decide))
  C:=h.C.off ho (fun k hk=>n (h.l4 k hk) (by decide))
  cur:=h.cur.off ho (fun k hk=>n (h.l5 k hk) (by decide))
  fr:=fun k hk=>⟨(h.fr k hk).1,by simpa [World.setCell] using (h.fr k hk).2⟩}
theorem LO.keepL (h:LO w0 g cells vA q rv_ R vB lB vC lC vr lr lab W) {c:Nat} {k d:Nat} (e:lab k=d) (hd:d≠0):upd lab W.heap.size c k=d:=by
 rw[upd_ne]
 ·exact e
 ·have:=(h.fr k (by omega)).2
  omega
theorem LO.newfr (h:LO w0 g cells vA q rv_ R vB lB vC lC vr lr lab W) {v':Value} (hs:W.heap.size≤W'.heap.size) (c:Nat) (hlt: ∀k,v'.ownBlock=some k→w0.heap.size≤k∧k<W'.heap.size): ∀k,(if v'.ownBlock=some W.heap.size then upd lab W.heap.size c else lab) k≠0→w0.heap.size≤k∧k<W'.heap.size:=by
 intro k hk
 split at hk
 ·next e=>
  by_cases e2:k=W.heap.size
  ·subst e2;exact hlt _ e
  ·rw[upd_ne e2] at hk
   exact⟨(h.fr k hk).1,Nat.lt_of_lt_of_le (h.fr k hk).2 hs⟩
 ·exact⟨(h.fr k hk).1,Nat.lt_of_lt_of_le (h.fr k hk).2 hs⟩
def lapp(lab:Nat→Nat)(W:World)(v':Value)(c:Nat):Nat→Nat:=if v'.ownBlock=some W.heap.size then upd lab W.heap.size c else lab
theorem lapp_keep (h:LO w0 g cells vA q rv_ R vB lB vC lC vr lr lab W) {v':Value} {c k d:Nat} (e:lab k=d) (hd:d≠0):lapp lab W v' c k=d:=by
 unfold lapp
 split
 ·exact h.keepL e hd
 ·exact e
theorem lapp_own (_h:LO w0 g cells vA q rv_ R vB lB vC lC vr lr lab W) {v v':Value} {c:Nat} (hl: ∀k,v.ownBlock=some k→lab k=c) (_hc:c≠0) (ho:v'.ownBlock=v.ownBlock∨v'.ownBlock=some W.heap.size): ∀k,v'.ownBlock=some k→lapp lab W v' c k=c:=by
 intro k hk
 unfold lapp
 split
 ·next e=>
  rw[e] at hk
  obtain rfl:W.heap.size=k:=by simpa using hk
  exact upd_same _ _ _
 ·next e=>
  rcases ho with e2|e2
  ·rw[e2] at hk;exact hl k hk
  ·exact absurd e2 e
theorem LO.appR (h:LO w0 g cells vA q rv_ R vB lB vC lC vr lr lab W) {v':Value} {l':List Raw} (hg:W.grownBy W' vr.ownBlock) (hv:Rats W' w0.heap.size v' l') (ho:v'.ownBlock=vr.ownBlock∨v'.ownBlock=some W.heap.size):
    LO w0 g cells vA q rv_ R vB lB vC lC v' l' (lapp lab W v' 5) W':=by
  have hoff:=off_grown hg
  have n: ∀ {k c:Nat},lab k=c→c≠5→¬vr.ownBlock=some k:=fun e hc e2=>hc (by rw[←e];exact h.l5 _ e2)
  exact {
    old:=h.old.trans (hoff.below (B:=w0.heap.size) (fun k hk e=>by have:=h.cur.own k e;omega) h.old.size)
    fix:=h.fix.off hoff (n h.l1 (by decide))
    A:=h.A.off hoff (fun k hk=>n (h.l2 k hk) (by decide))
    rows:=fun i hi=>(h.rows i hi).off hoff (fun k hk=>n (h.l6 i hi k hk) (by omega))
    B:=h.B.off hoff (fun k hk=>n (h.l3 k hk) (by decide))
    C:=h.C.off hoff (fun k hk=>n (h.l4 k hk) (by decide))
    cur:=hv
    l1:=lapp_keep h h.l1 (by decide)
    l2:=fun k hk=>lapp_keep h (h.l2 k hk) (by decide)
    l3:=fun k hk=>lapp_keep h (h.l3 k hk) (by decide)
    l4:=fun k hk=>lapp_keep h (h.l4 k hk) (by decide)
    l5:=lapp_own h h.l5 (by decide) ho
    l6:=fun i hi k hk=>lapp_keep h (h.l6 i hi k hk) (by omega)
    fr:=h.newfr hg.size 5 (fun k hk=>⟨hv.own k hk,hv.low k hk⟩)}
theorem LO.appB (h:LO w0 g cells vA q rv_ R vB lB vC lC vr lr lab W) {v':Value} {l':List Raw} (hg:W.grownBy W' vB.ownBlock) (hv:Rats W' w0.heap.size v' l') (ho:v'.ownBlock=vB.ownBlock∨v'.ownBlock=some W.heap.size):
    LO w0 g cells vA q rv_ R v' l' vC lC vr lr (lapp lab W v' 3) W':=by
  have hoff:=off_grown hg
  have n: ∀ {k c:Nat},lab k=c→c≠3→¬vB.ownBlock=some k:=fun e hc e2=>hc (by rw[←e];exact h.l3 _ e2)
  exact {
    old:=h.old.trans (hoff.below (B:=w0.heap.size) (fun k hk e=>by have:=h.B.own k e;omega) h.old.size)
    fix:=h.fix.off hoff (n h.l1 (by decide))
    A:=h.A.off hoff (fun k hk=>n (h.l2 k hk) (by decide))
    rows:=fun i hi=>(h.rows i hi).off hoff (fun k hk=>n (h.l6 i hi k hk) (by omega))
    B:=hv
    C:=h.C.off hoff (fun k hk=>n (h.l4 k hk) (by decide))
    cur:=h.cur.off hoff (fun k hk=>n (h.l5 k hk) (by decide))
    l1:=lapp_keep h h.l1 (by decide)
    l2:=fun k hk=>lapp_keep h (h.l2 k hk) (by decide)
    l3:=lapp_own h h.l3 (by decide) ho
    l4:=fun k hk=>lapp_keep h (h.l4 k hk) (by decide)
    l5:=fun k hk=>lapp_keep h (h.l5 k hk) (by decide)
    l6:=fun i hi k hk=>lapp_keep h (h.l6 i hi k hk) (by omega)
    fr:=h.newfr hg.size 3 (fun k hk=>⟨hv.own k hk,hv.low k hk⟩)}
theorem LO.appC (h:LO w0 g cells vA q rv_ R vB lB vC lC vr lr lab W) {v':Value} {l':List Raw} (hg:W.grownBy W' vC.ownBlock) (hv:Rats W' w0.heap.size v' l') (ho:v'.ownBlock=vC.ownBlock∨v'.ownBlock=some W.heap.size):
    LO w0 g cells vA q rv_ R vB lB v' l' vr lr (lapp lab W v' 4) W':=by
  have hoff:=off_grown hg
  have n: ∀ {k c:Nat},lab k=c→c≠4→¬vC.ownBlock=some k:=fun e hc e2=>hc (by rw[←e];exact h.l4 _ e2)
  exact {
    old:=h.old.trans (hoff.below (B:=w0.heap.size) (fun k hk e=>by have:=h.C.own k e;omega) h.old.size)
    fix:=h.fix.off hoff (n h.l1 (by decide))
    A:=h.A.off hoff (fun k hk=>n (h.l2 k hk) (by decide))
    rows:=fun i hi=>(h.rows i hi).off hoff (fun k hk=>n (h.l6 i hi k hk) (by omega))
    B:=h.B.off hoff (fun k hk=>n (h.l3 k hk) (by decide))
    C:=hv
    cur:=h.cur.off hoff (fun k hk=>n (h.l5 k hk) (by decide))
    l1:=lapp_keep h h.l1 (by decide)
    l2:=fun k hk=>lapp_keep h (h.l2 k hk) (by decide)
    l3:=fun k hk=>lapp_keep h (h.l3 k hk) (by decide)
    l4:=lapp_own h h.l4 (by decide) ho
    l5:=fun k hk=>lapp_keep h (h.l5 k hk) (by decide)
    l6:=fun i hi k hk=>lapp_keep h (h.l6 i hi k hk) (by omega)
    fr:=h.newfr hg.size 4 (fun k hk=>⟨hv.own k hk,hv.low k hk⟩)}
theorem LO.pushA (h:LO w0 g cells vA q rv_ R vB lB vC lC vr lr lab W) {v':Value} (hg:W.grownBy W' vA.ownBlock) (hv:Vals 27 W' w0.heap.size v' ((List.range q).map rv_++ [vr])) (ho:v'.ownBlock=vA.ownBlock∨v'.ownBlock=some W.heap.size):
    ∃lab',LO w0 g cells v' (q+1) (upd rv_ q vr) (upd R q lr) vB lB vC lC (.slice none 0 0) [] lab' W':=by
  have hoff:=off_grown hg
  have n: ∀ {k c:Nat},lab k=c→c≠2→¬vA.ownBlock=some k:=fun e hc e2=>hc (by rw[←e];exact h.l2 _ e2)
  have key: ∀ {k d:Nat},lab k=d→d≠0→d≠5→(fun k=>if vr.ownBlock=some k then 6+q else lapp lab W v' 2 k) k=d:=fun {k d} e h0 h5=>by
    show(if vr.ownBlock=some k then 6+q else lapp lab W v' 2 k)=d
    rw[if_neg (fun e2=>h5 (by rw[←e];exact h.l5 k e2))]
    exact lapp_keep h e h0
  refine⟨fun k=>if vr.ownBlock=some k then 6+q else lapp lab W v' 2 k,{
    old:=h.old.trans (hoff.below (B:=w0.heap.size) (fun k hk e=>by have:=h.A.own k e;omega) h.old.size)
    fix:=h.fix.off hoff (n h.l1 (by decide))
    A :=by
      have e:(List.range (q+1)).map (upd rv_ q vr)=(List.range q).map rv_++ [vr]:=by
        rw[List.range_succ,List.map_append,List.map_singleton,upd_same]
        congr 1
        exact List.map_congr_left fun x hx=>upd_ne (by have:=List.mem_range.1 hx;omega)
      rw[e];exact hv
    rows:=fun i hi=>by
      by_cases e:i=q
      · subst e;rw[upd_same,upd_same]
        exact h.cur.off hoff (fun k hk=>n (h.l5 k hk) (by decide))
      · rw[upd_ne e,upd_ne e]
        exact(h.rows i (by omega)).off hoff (fun k hk=>n (h.l6 i (by omega) k hk) (by omega))
    B:=h.B.off hoff (fun k hk=>n (h.l3 k hk) (by decide))
    C:=h.C.off hoff (fun k hk=>n (h.l4 k hk) (by decide))
    cur:=Rats.nil _ _
    l1:=key h.l1 (by decide) (by decide)
    l2 :=fun k hk=>by
      have h2:=lapp_own h h.l2 (by decide) ho k hk
      show(if vr.ownBlock=some k then 6+q else lapp lab W v' 2 k)=2
      rw[if_neg (fun e2=>?_)]
      ·exact h2
      · have h5:=h.l5 k e2
        rw[lapp_keep h h5 (by decide)] at h2
        cases h2
    l3:=fun k hk=>key (h.l3 k hk) (by decide) (by decide)
    l4:=fun k hk=>key (h.l4 k hk) (by decide) (by decide)
    l5:=fun k hk=>by cases hk
    l6:=fun i hi k hk=>by
      by_cases e:i=q
      ·subst e;rw[upd_same] at hk;exact if_pos hk
      ·rw[upd_ne e] at hk;exact key (h.l6 i (by omega) k hk) (by omega) (by omega)
    fr:=fun k hk=>?_}⟩
  have hk:(if vr.ownBlock=some k then 6+q else lapp lab W v' 2 k)≠0:=hk
  split at hk
  ·next e=>exact⟨h.cur.own k e,Nat.lt_of_lt_of_le (h.cur.low k e) hg.size⟩
  ·exact h.newfr hg.size 2 (fun k hk=>⟨hv.own k hk,hv.low k hk⟩) k hk
theorem LO.base {w:World} (h:LO w0 g cells vA q rv_ R vB lB vC lC vr lr lab W) (hb:Below w.heap.size w w0):LO w g cells vA q rv_ R vB lB vC lC vr lr lab W:=
 {h with
  old:=hb.trans (h.old.mono hb.size)
  A:=h.A.mono hb.size
  rows:=fun i hi=>(h.rows i hi).mono hb.size
  B:=h.B.mono hb.size
  C:=h.C.mono hb.size
  cur:=h.cur.mono hb.size
  fr:=fun k hk=>⟨Nat.le_trans hb.size (h.fr k hk).1,(h.fr k hk).2⟩}
theorem LO.lab0 (h:LO w0 g cells vA q rv_ R vB lB vC lC vr lr lab W) {k:Nat} (hk:k<w0.heap.size):lab k=0:=Classical.byContradiction fun e=>by
 have:=(h.fr k e).1
 omega
theorem LO.setRows {rv':Nat→Value} {R':Nat→List Raw} (h:LO w0 g cells vA q rv_ R vB lB vC lC vr lr lab W) (h1: ∀i,i<q→rv_ i=rv' i) (h2: ∀i,i<q→R i=R' i):LO w0 g cells vA q rv' R' vB lB vC lC vr lr lab W:=
 {h with
  A:=by rw[←List.map_congr_left (fun x hx=>h1 x (List.mem_range.1 hx))];exact h.A
  rows:=fun i hi=>by rw[←h1 i hi,←h2 i hi];exact h.rows i hi
  l6:=fun i hi k hk=>h.l6 i hi k (by rw[h1 i hi];exact hk)}
theorem LO.pr {m n:Nat} {A:Nat→Nat→Rat} {B C:Nat→Rat} (h:LO w0 g cells vA m rv_ R vB (raws m B) vC (raws n C) vr lr lab W) (hR: ∀i,i<m→R i=raws n (A i)):PR W (.agg #[vA,vB,vC]) m n A B C:=by
 refine⟨vA,vB,vC,rfl,?_,h.B.slr,h.C.slr⟩
 obtain⟨a,cap,e,h1⟩:=h.A.form
 simp only[List.length_map,List.length_range] at e h1
 refine⟨a,cap,e,fun h0=>?_⟩
 obtain⟨g',e2,ho⟩:=h1 h0;have hc:=h.A.rowC ho
 refine⟨g',e2,hc.1,fun i hi=>⟨rv_ i,?_,?_⟩⟩
 ·rw[hc.2 i (by simpa using hi)]
  rw[List.getD_eq_getElem?_getD]
  simp[hi]
 ·have:=h.rows i hi
  rw[hR i hi] at this
  exact this.slr
end
end Go.Proofs.YtinmmkcjjlconaaGreat
