/- Parts of the proofs about this seat's statements. -/
import Derived.Test.YtinmmkcjjlconaaGreatL1l
set_option maxRecDepth 100000
set_option maxHeartbeats 16000000
namespace Go.Proofs.YtinmmkcjjlconaaGreat
open Go.RowKit W
open Pl (nb)
def Vals(t:TypeId)(w:World)(B:Nat)(v:Value)(l:List Value):Prop:=w.ownsRow B t 1 v l.length l
section
variable {t:TypeId} {w w':World} {B g:Nat} {v:Value} {l:List Value}
theorem Vals.nil(t:TypeId)(w:World)(B:Nat):Vals t w B (.slice none 0 0) []:=World.ownsRow_nil _ _ _ _
theorem Vals.form (h:Vals t w B v l): ∃a cap,v= .slice a l.length cap∧(0<l.length→∃g,a=some ⟨g,0,none⟩∧v.ownBlock=some g):=by
 rcases h.2 with⟨rfl,hn⟩|⟨g,cap,cur,rfl,hb,hg,hnc,hcm,hcs,htake⟩
 ·exact⟨none,0,by rw[hn],fun h0=>by omega⟩
 ·exact⟨_,cap,rfl,fun _=>⟨g,rfl,rfl⟩⟩
theorem Vals.own(h:Vals t w B v l): ∀k,v.ownBlock=some k→B≤k:=fun k hk=>(World.ownsRow.lt h k hk).1
theorem Vals.low(h:Vals t w B v l): ∀k,v.ownBlock=some k→k<w.heap.size:=fun k hk=>(World.ownsRow.lt h k hk).2
theorem Vals.alloc(h:Vals t w B v l)(o:Obj):Vals t (w.alloc o) B v l:=World.ownsRow.alloc h o
theorem Vals.off {M:Nat→Prop} (h:Vals t w B v l) (ho:Off M w w') (hm: ∀k,v.ownBlock=some k→¬M k):Vals t w' B v l:=by
 rcases h.2 with⟨rfl,hn⟩|⟨g,cap,cur,rfl,hb2,hg,hnc,hcm,hcs,htake⟩
 ·exact⟨h.1,.inl ⟨rfl,hn⟩⟩
 ·exact⟨h.1,.inr ⟨g,cap,cur,rfl,hb2,ho.at hg (hm g rfl),hnc,hcm,hcs,htake⟩⟩
theorem Vals.below(h:Vals t w B v l)(hb:Below w.heap.size w w'):Vals t w' B v l:=h.off (M:=NoB) (off_of hb) (fun _ _ e=>e)
theorem Vals.drew(h:Vals t w B v l):Vals t w.drew B v l:=h
theorem Vals.mono{B':Nat}(h:Vals t w B v l)(hb:B'≤B):Vals t w B' v l:=⟨h.1,h.2.imp id (fun⟨g,cap,cur,a,b,c⟩=>⟨g,cap,cur,a,by omega,c⟩)⟩
theorem Vals.other (h:Vals t w B v l) {p:Addr} (hne: ∀k,v.ownBlock=some k→p.block≠k) (u:Value):Vals t (w.setCell p u) B v l:=
 h.off (M:=fun k=>k=p.block) ((Off.refl (fun k=>k=p.block) _).set rfl u) (fun k hk e=>hne k hk e.symm)
theorem Vals.kept {row:Option Nat} (h:Vals t w B v l) (hg:w.grownBy w' row) (hne: ∀k,v.ownBlock=some k→row≠some k):Vals t w' B v l:=
 World.ownsRow.kept h hg (by
  cases hv:v.ownBlock with
  |none=>exact .inl rfl
  |some k=>right;exact fun e=>hne k hv e.symm)
theorem Vals.rowC (h:Vals t w B v l) (hv:v.ownBlock=some g):RowC w g l.length (fun i=>l.getD i undef):=by
 rcases h.2 with⟨rfl,hn⟩|⟨g',cap,cur,rfl,hb,hg,hnc,hcm,hcs,htake⟩
 ·simp[Value.ownBlock] at hv
 ·obtain rfl:g'=g:=by simpa [Value.ownBlock] using hv
  refine⟨(Array.getElem?_eq_some_iff.1 hg).1,fun i hi=>?_,fun j=>by rw[World.frozen?,hg];rfl⟩
  rw[World.ownsRow.cellAt h i (by omega),List.getD_eq_getElem?_getD,List.getElem?_eq_getElem hi]
  rfl
theorem Vals.lit (w:World) (hB:B≤w.heap.size) (t:TypeId) (l:List Value) (hl:l.length≤1000):Vals t (w.alloc (.cells l.toArray t)) B (.slice (some ⟨w.heap.size,0,none⟩) l.length l.length) l:=by
 have:=World.ownsRow_lit (e:=t) (size:=1) w l.toArray l.length hB (by simp[maxLen];omega) (by simp)
 simpa [Vals] using this
end
theorem off_grown{w w':World}{row:Option Nat}(h:w.grownBy w' row):Off (fun k=>row=some k) w w':=⟨h.os,h.tape,h.output,h.size,fun k hk hm=>h.block k hk (fun e=>hm e.symm)⟩
theorem run_app_vals {tS t:TypeId} {z:Value} {by_:Nat} (hu:Tryz.prog.underlying tS=some (.slice t)) (hinf:(Tryz.prog.info? t).map (fun i=>(i.zero,i.size,i.bytes))=some (some z,1,by_)) (hz:z.cells.size=1) (hby:by_≤100)
  {w:World} {B B2:Nat} {v v2:Value} {l l2:List Value} (ty:TypeId) (h:Vals t w B v l) (h2:Vals t w B2 v2 l2) (h1: ∀u∈l2,u.oneCell'=true) (hlen:l.length+l2.length<1000000000) (hB:B≤w.heap.size):
  ∃v' w',(Builtin.append_ #[tS,tS] ty #[v,v2]).run Tryz.prog w= .ok v' w'∧Vals t w' B v' (l++l2)∧w.grownBy w' v.ownBlock∧(v'.ownBlock=v.ownBlock∨v'.ownBlock=some w.heap.size):=by
 obtain⟨i0,hi,hz0,hz1,hz2⟩:=info_parts hinf
 rcases h2.2 with⟨rfl,hn⟩|⟨g,cap,cur,rfl,hb,hg,hnc,hcm,hcs,htake⟩
 ·refine⟨v,w,run_append_owned_none (P:=Tryz.prog) (w:=w) B tS ty t i0 1 hu hi v _ _ h,?_,World.grownBy.refl _ _,.inl rfl⟩
  have:l2= []:=List.eq_nil_of_length_eq_zero hn;subst this
  simpa using h
 ·have hb2:(l.length+l2.length)*by_≤140737488355328:=Nat.le_trans (Nat.mul_le_mul_left _ hby) (by omega)
  obtain⟨v',w',hr,e2,e3,_,e5⟩:=run_append_own_at (P:=Tryz.prog) w B tS ty t i0 _ 1 by_ hu hi hz0 hz1 hz2 hz (by decide) v _ _ h ⟨g,0,none⟩ l2.length cap l2 (by omega) (World.ownsRow.cells h2 rfl) h1 (by unfold maxLen;omega) hb2 hB
  refine⟨v',w',hr,?_,e3,e5⟩
  unfold Vals;rw[List.length_append]
  exact e2
section
variable {tS t:TypeId} {z:Value} {by_:Nat}
theorem app_vals (hu:Tryz.prog.underlying tS=some (.slice t)) (hinf:(Tryz.prog.info? t).map (fun i=>(i.zero,i.size,i.bytes))=some (some z,1,by_)) (hz:z.cells.size=1) (hby:by_≤100)
  {w:World} {ops:Array Oper} {rest:List Oper} {o:Oper} {a:Act} {Q:Exit→Act→World→Prop} {s x:Operand} {v v2:Value} {l l2:List Value} {B2:Nat}
  (hgd:o.guard=none)
  (ho:o.op= .call {callee:=.builtin .append,args:= #[s,x],argTypes:= #[tS,tS]})
  (hs:a.eval s=v) (hx:a.eval x=v2) (B:Nat) (hown:Vals t w B v l) (h2:Vals t w B2 v2 l2) (h1: ∀u∈l2,u.oneCell'=true)
  (hlen:l.length+l2.length<1000000000) (hB:B≤w.heap.size)
  (h: ∀v' w',Vals t w' B v' (l++l2)→w.grownBy w' v.ownBlock→(v'.ownBlock=v.ownBlock∨v'.ownBlock=some w.heap.size)→wpList Tryz.prog ops Q rest (a.put o.dst v') w'):wpList Tryz.prog ops Q (o::rest) a w:=by
 refine wpList_plain hgd fun K hK=>?_
 obtain⟨v',w',hr,e1,e2,e3⟩:=run_app_vals hu hinf hz hby o.type hown h2 h1 hlen hB;unfold Oper.wp execOp
 simp only[ho,resolve,invoke,builtin,Sem.run_bind,Sem.run_pure,Result.andThen_ok,List.map_toArray,List.map_cons,List.map_nil,hs,hx,hr]
 exact hK _ _ (h v' w' e1 e2 e3)
theorem step_vals (hu:Tryz.prog.underlying tS=some (.slice t)) (hinf:(Tryz.prog.info? t).map (fun i=>(i.zero,i.size,i.bytes))=some (some z,1,by_)) (hz:z.cells.size=1) (hby:by_≤100)
  {w:World} {ops:Array Oper} {o:Oper} {a:Act} {K:Act→World→Prop} {Q:Exit→Act→World→Prop} {E:Prop} {s x:Operand} {v v2:Value} {l l2:List Value} {B2:Nat}
  (hgd:o.guard=none)
  (ho:o.op= .call {callee:=.builtin .append,args:= #[s,x],argTypes:= #[tS,tS]})
  (hs:a.eval s=v) (hx:a.eval x=v2) (B:Nat) (hown:Vals t w B v l) (h2:Vals t w B2 v2 l2) (h1: ∀u∈l2,u.oneCell'=true)
  (hlen:l.length+l2.length<1000000000) (hB:B≤w.heap.size)
  (h: ∀v' w',Vals t w' B v' (l++l2)→w.grownBy w' v.ownBlock→(v'.ownBlock=v.ownBlock∨v'.ownBlock=some w.heap.size)→K (a.put o.dst v') w'):if Region.wanted o (yielded ops a.tmps)=true then Oper.wp Tryz.prog o a w K Q else E:=by
 have hw:Region.wanted o (yielded ops a.tmps)=true:=by simp[Region.wanted,hgd]
 rw[if_pos hw];obtain⟨v',w',hr,e1,e2,e3⟩:=run_app_vals hu hinf hz hby o.type hown h2 h1 hlen hB;unfold Oper.wp execOp
 simp only[ho,resolve,invoke,builtin,Sem.run_bind,Sem.run_pure,Result.andThen_ok,List.map_toArray,List.map_cons,List.map_nil,hs,hx,hr]
 exact h v' w' e1 e2 e3
end
theorem info_rats:(Tryz.prog.info? 27).map (fun i=>(i.zero,i.size,i.bytes))=some (some (.slice none 0 0),1,24):=by kernel_rfl
structure SS (w0:World) (m N bt gk gr gv:Nat) (cells:List Value) (vb:Value) (lb:List Value) (vi:Value) (li:List Value) (bs:Nat→Value) (q:Nat) (gq:Nat→Nat) (rw_:Nat→Nat→V3) (vv:Nat→V3) (lab:Nat→Nat) (W:World):Prop where
  old:Below w0.heap.size w0 W
  fix:Rx W bt cells
  bas:Vals 3 W w0.heap.size vb lb
  inv:Vals 27 W w0.heap.size vi li
  basic:RowC W gk N bs
  barred:RowC W gr N (fun _=>.bool false)
  rows: ∀k,k<q→Row3 W (gq k) m (rw_ k)
  vals:0<m→Row3 W gv m vv
  l1:lab bt=1
  l2:lab gk=2
  l3:lab gr=3
  l4:0<m→lab gv=4
  l5: ∀k,vb.ownBlock=some k→lab k=5
  l6: ∀k,vi.ownBlock=some k→lab k=6
  l7: ∀k,k<q→lab (gq k)=7+k
  g1:w0.heap.size≤bt
  g2:w0.heap.size≤gk
  g3:w0.heap.size≤gr
  g4:0<m→w0.heap.size≤gv
  g7: ∀k,k<q→w0.heap.size≤gq k
section
variable {w0:World} {m N bt gk gr gv:Nat} {cells:List Value} {vb:Value} {lb:List Value} {vi:Value} {li:List Value} {bs:Nat→Value} {q:Nat} {gq:Nat→Nat} {rw_:Nat→Nat→V3} {vv:Nat→V3} {lab:Nat→Nat} {W W':World}
theorem SS.below (h:SS w0 m N bt gk gr gv cells vb lb vi li bs q gq rw_ vv lab W) (hb:Below W.heap.size W W'):SS w0 m N bt gk gr gv cells vb lb vi li bs q gq rw_ vv lab W':=
 {h with old:=h.old.trans (hb.mono h.old.size),fix:=h.fix.below hb,bas:=h.bas.below hb,inv:=h.inv.below hb,basic:=h.basic.below hb,barred:=h.barred.below hb,rows:=fun k hk=>(h.rows k hk).below hb,vals:=fun h0=>(h.vals h0).below hb}
theorem SS.drew(h:SS w0 m N bt gk gr gv cells vb lb vi li bs q gq rw_ vv lab W):SS w0 m N bt gk gr gv cells vb lb vi li bs q gq rw_ vv lab W.drew:=h.below (Below.refl _ _).drew
theorem SS.alloc(h:SS w0 m N bt gk gr gv cells vb lb vi li bs q gq rw_ vv lab W)(o:Obj):SS w0 m N bt gk gr gv cells vb lb vi li bs q gq rw_ vv lab (W.alloc o):=h.below ((Below.refl _ _).alloc (Nat.le_refl _) o)
theorem SS.init (old:Below w0.heap.size w0 W) (fix:Rx W bt cells) (hk:RowC W gk N (fun _=>.bool false)) (hr:RowC W gr N (fun _=>.bool false)) (hv:0<m→Row3 W gv m vv) (n1:bt≠gk) (n2:bt≠gr) (n3:gk≠gr) (n4:0<m→gv≠bt∧gv≠gk∧gv≠gr)
  (g1:w0.heap.size≤bt) (g2:w0.heap.size≤gk) (g3:w0.heap.size≤gr) (g4:0<m→w0.heap.size≤gv):
  SS w0 m N bt gk gr gv cells (.slice none 0 0) [] (.slice none 0 0) [] (fun _=>.bool false) 0 gq rw_ vv (fun k=>if k=bt then 1 else if k=gk then 2 else if k=gr then 3 else 4) W where
 old:=old
 fix:=fix
 bas:=Vals.nil _ _ _
 inv:=Vals.nil _ _ _
 basic:=hk
 barred:=hr
 rows:=fun k hk=>by omega
 vals:=hv
 l1:=if_pos rfl
 l2:=by rw[if_neg (Ne.symm n1),if_pos rfl]
 l3:=by rw[if_neg (Ne.symm n2),if_neg (Ne.symm n3),if_pos rfl]
 l4:=fun h0=>by
  obtain⟨a,b,c⟩:=n4 h0;rw[if_neg a,if_neg b,if_neg c]
 l5:=fun k hk=>by cases hk
 l6:=fun k hk=>by cases hk
 l7:=fun k hk=>by omega
 g1:=g1
 g2:=g2
 g3:=g3
 g4:=g4
 g7:=fun k hk=>by omega
theorem SS.congrB{bs':Nat→Value}(h:SS w0 m N bt gk gr gv cells vb lb vi li bs q gq rw_ vv lab W)(he: ∀j,j<N→bs j=bs' j):SS w0 m N bt gk gr gv cells vb lb vi li bs' q gq rw_ vv lab W:= {h with basic:=h.basic.congr he}
theorem SS.congrR{rw':Nat→Nat→V3}(h:SS w0 m N bt gk gr gv cells vb lb vi li bs q gq rw_ vv lab W)(he: ∀k x,k<q→x<m→rw_ k x=rw' k x):SS w0 m N bt gk gr gv cells vb lb vi li bs q gq rw' vv lab W:= {h with rows:=fun k hk=>(h.rows k hk).congr (fun x hx=>he k x hk hx)}
theorem SS.cell (h:SS w0 m N bt gk gr gv cells vb lb vi li bs q gq rw_ vv lab W) (j:Nat) (v:Value) (hj:j<cells.length):SS w0 m N bt gk gr gv (cells.set j v) vb lb vi li bs q gq rw_ vv lab (W.setCell ⟨bt,j,none⟩ v):=by
 have ne: ∀ {k:Nat} {c:Nat},lab k=c→c≠1→(⟨bt,j,none⟩:Addr).block≠k:=fun hk hc e=>hc (by rw[←hk,←e];exact h.l1)
 exact {h with
  old:=h.old.setCell (p:=⟨bt,j,none⟩) h.g1 v
  fix:=h.fix.put j v hj
  bas:=h.bas.other (fun k hk=>ne (h.l5 k hk) (by decide)) v
  inv:=h.inv.other (fun k hk=>ne (h.l6 k hk) (by decide)) v
  basic:=h.basic.other (ne h.l2 (by decide)) v
  barred:=h.barred.other (ne h.l3 (by decide)) v
  rows:=fun k hk=>(h.rows k hk).other (ne (h.l7 k hk) (by omega)) v
  vals:=fun h0=>(h.vals h0).other (ne (h.l4 h0) (by decide)) v}
theorem SS.setb (h:SS w0 m N bt gk gr gv cells vb lb vi li bs q gq rw_ vv lab W) (j:Nat) (v:Value) (hj:j<N):SS w0 m N bt gk gr gv cells vb lb vi li (upd bs j v) q gq rw_ vv lab (W.setCell ⟨gk,j,none⟩ v):=by
 have ne: ∀ {k:Nat} {c:Nat},lab k=c→c≠2→(⟨gk,j,none⟩:Addr).block≠k:=fun hk hc e=>hc (by rw[←hk,←e];exact h.l2)
 exact {h with
  old:=h.old.setCell (p:=⟨gk,j,none⟩) h.g2 v
  fix:=h.fix.other (ne h.l1 (by decide)) v
  bas:=h.bas.other (fun k hk=>ne (h.l5 k hk) (by decide)) v
  inv:=h.inv.other (fun k hk=>ne (h.l6 k hk) (by decide)) v
  basic:=h.basic.put hj v
  barred:=h.barred.other (ne h.l3 (by decide)) v
  rows:=fun k hk=>(h.rows k hk).other (ne (h.l7 k hk) (by omega)) v
  vals:=fun h0=>(h.vals h0).other (ne (h.l4 h0) (by decide)) v}
theorem SS.put (h:SS w0 m N bt gk gr gv cells vb lb vi li bs q gq rw_ vv lab W) {k x:Nat} (hk:k<q) (hx:x<m) (v:V3):SS w0 m N bt gk gr gv cells vb lb vi li bs q gq (upd rw_ k (upd (rw_ k) x v)) vv lab (sto3 W (gq k) x v):=by
 have hoff:Off (fun b=>b=gq k) W (sto3 W (gq k) x v):=off_sto3 (M:=fun b=>b=gq k) rfl x v
 have ne: ∀ {b:Nat} {c:Nat},lab b=c→c≠7+k→¬b=gq k:=fun hb hc e=>hc (by rw[←hb,e];exact h.l7 k hk)
 exact {h with
  old:=below_sto3 h.old (h.g7 k hk) v
  fix:=h.fix.off hoff (ne h.l1 (by omega))
  bas:=h.bas.off hoff (fun b hb=>ne (h.l5 b hb) (by omega))
  inv:=h.inv.off hoff (fun b hb=>ne (h.l6 b hb) (by omega))
  basic:=h.basic.off hoff (ne h.l2 (by omega))
  barred:=h.barred.off hoff (ne h.l3 (by omega))
  rows:=fun k' hk'=>by
   by_cases e:k'=k
   ·subst e;rw[upd_same];exact(h.rows k' hk').put hx v
   ·rw[upd_ne e];exact(h.rows k' hk').off hoff (ne (h.l7 k' hk') (by omega))
  vals:=fun h0=>(h.vals h0).off hoff (ne (h.l4 h0) (by omega))}
theorem SS.row (h:SS w0 m N bt gk gr gv cells vb lb vi li bs q gq rw_ vv lab W) (hb:Below W.heap.size W W') {g:Nat} (hg:W.heap.size≤g) {r:Nat→V3} (hr:Row3 W' g m r):SS w0 m N bt gk gr gv cells vb lb vi li bs (q+1) (upd gq q g) (upd rw_ q r) vv (upd lab g (7+q)) W':=by
 have h':=h.below hb
 have un: ∀ {b:Nat},b<W.heap.size→upd lab g (7+q) b=lab b:=fun hb=>upd_ne (by omega)
 exact {h' with
  rows:=fun k hk=>by
   by_cases e:k=q
   ·subst e;rw[upd_same,upd_same];exact hr
   ·rw[upd_ne e,upd_ne e];exact h'.rows k (by omega)
  l1:=by rw[un h.fix.lt];exact h.l1
  l2:=by rw[un h.basic.lt];exact h.l2
  l3:=by rw[un h.barred.lt];exact h.l3
  l4:=fun h0=>by rw[un (h.vals h0).lt];exact h.l4 h0
  l5:=fun k hk=>by rw[un (h.bas.low k hk)];exact h.l5 k hk
  l6:=fun k hk=>by rw[un (h.inv.low k hk)];exact h.l6 k hk
  l7:=fun k hk=>by
   by_cases e:k=q
   ·subst e;rw[upd_same,upd_same]
   ·rw[upd_ne e,un (h.rows k (by omega)).lt];exact h.l7 k (by omega)
  g7:=fun k hk=>by
   by_cases e:k=q
   ·subst e;rw[upd_same];exact Nat.le_trans h.old.size hg
   ·rw[upd_ne e];exact h.g7 k (by omega)}
theorem SS.appB (h:SS w0 m N bt gk gr gv cells vb lb vi li bs q gq rw_ vv lab W) {vb':Value} {lb':List Value} (hg:W.grownBy W' vb.ownBlock) (hv:Vals 3 W' w0.heap.size vb' lb') (ho:vb'.ownBlock=vb.ownBlock∨vb'.ownBlock=some W.heap.size):
    ∃lab',SS w0 m N bt gk gr gv cells vb' lb' vi li bs q gq rw_ vv lab' W':=by
  have hoff:=off_grown hg
  have ne: ∀ {b:Nat} {c:Nat},lab b=c→c≠5→¬vb.ownBlock=some b:=fun hb hc e=>hc (by rw[←hb];exact h.l5 _ e)
  have un: ∀ {b:Nat},b<W.heap.size→upd lab W.heap.size 5 b=lab b:=fun hb=>upd_ne (by omega)
  refine⟨upd lab W.heap.size 5,{
    old:=h.old.trans (hoff.below (B:=w0.heap.size) (fun k hk e=>by have:=h.bas.own k e;omega) h.old.size)
    fix:=h.fix.off hoff (ne h.l1 (by decide))
    bas:=hv
    inv:=h.inv.off hoff (fun b hb=>ne (h.l6 b hb) (by decide))
    basic:=h.basic.off hoff (ne h.l2 (by decide))
    barred:=h.barred.off hoff (ne h.l3 (by decide))
    rows:=fun k hk=>(h.rows k hk).off hoff (ne (h.l7 k hk) (by omega))
    vals:=fun h0=>(h.vals h0).off hoff (ne (h.l4 h0) (by decide))
    l1:=by rw[un h.fix.lt];exact h.l1
    l2:=by rw[un h.basic.lt];exact h.l2
    l3:=by rw[un h.barred.lt];exact h.l3
    l4:=fun h0=>by rw[un (h.vals h0).lt];exact h.l4 h0
    l5 :=fun k hk=>by
      rcases ho with ho|ho
      ·rw[ho] at hk;rw[un (h.bas.low k hk)];exact h.l5 k hk
      · rw[ho] at hk;obtain rfl:W.heap.size=k:=by simpa using hk
        rw[upd_same]
    l6:=fun k hk=>by rw[un (h.inv.low k hk)];exact h.l6 k hk
    l7:=fun k hk=>by rw[un (h.rows k hk).lt];exact h.l7 k hk
    g1:=h.g1,g2:=h.g2,g3:=h.g3,g4:=h.g4,g7:=h.g7}⟩
theorem SS.appI (h:SS w0 m N bt gk gr gv cells vb lb vi li bs q gq rw_ vv lab W) {vi':Value} {li':List Value} (hg:W.grownBy W' vi.ownBlock) (hv:Vals 27 W' w0.heap.size vi' li') (ho:vi'.ownBlock=vi.ownBlock∨vi'.ownBlock=some W.heap.size):
    ∃lab',SS w0 m N bt gk gr gv cells vb lb vi' li' bs q gq rw_ vv lab' W':=by
  have hoff:=off_grown hg
  have ne: ∀ {b:Nat} {c:Nat},lab b=c→c≠6→¬vi.ownBlock=some b:=fun hb hc e=>hc (by rw[←hb];exact h.l6 _ e)
  have un: ∀ {b:Nat},b<W.heap.size→upd lab W.heap.size 6 b=lab b:=fun hb=>upd_ne (by omega)
  refine⟨upd lab W.heap.size 6,{
    old:=h.old.trans (hoff.below (B:=w0.heap.size) (fun k hk e=>by have:=h.inv.own k e;omega) h.old.size)
    fix:=h.fix.off hoff (ne h.l1 (by decide))
    bas:=h.bas.off hoff (fun b hb=>ne (h.l5 b hb) (by decide))
    inv:=hv
    basic:=h.basic.off hoff (ne h.l2 (by decide))
    barred:=h.barred.off hoff (ne h.l3 (by decide))
    rows:=fun k hk=>(h.rows k hk).off hoff (ne (h.l7 k hk) (by omega))
    vals:=fun h0=>(h.vals h0).off hoff (ne (h.l4 h0) (by decide))
    l1:=by rw[un h.fix.lt];exact h.l1
    l2:=by rw[un h.basic.lt];exact h.l2
    l3:=by rw[un h.barred.lt];exact h.l3
    l4:=fun h0=>by rw[un (h.vals h0).lt];exact h.l4 h0
    l5:=fun k hk=>by rw[un (h.bas.low k hk)];exact h.l5 k hk
    l6 :=fun k hk=>by
      rcases ho with ho|ho
      ·rw[ho] at hk;rw[un (h.inv.low k hk)];exact h.l6 k hk
      · rw[ho] at hk;obtain rfl:W.heap.size=k:=by simpa using hk
        rw[upd_same]
    l7:=fun k hk=>by rw[un (h.rows k hk).lt];exact h.l7 k hk
    g1:=h.g1,g2:=h.g2,g3:=h.g3,g4:=h.g4,g7:=h.g7}⟩
end
def lbF(n i:Nat):List Value:=(List.range i).map (fun(x:Nat)=>.int .i64 ((n:Int)+(x:Int)))
def liF(m i:Nat)(gq:Nat→Nat):List Value:=(List.range i).map (fun x=>.slice (some ⟨gq x,0,none⟩) m m)
def bsF(n i j:Nat):Value:=.bool (decide (n≤j∧j<n+i))
def rwF(k x:Nat):V3:=if x=k then q3 1 else q3 0
theorem lbF_len(n i:Nat):(lbF n i).length=i:=by simp[lbF]
theorem liF_len(m i:Nat)(gq:Nat→Nat):(liF m i gq).length=i:=by simp[liF]
theorem lbF_succ(n i:Nat):lbF n (i+1)=lbF n i++ [.int .i64 ((n:Int)+(i:Int))]:=by simp[lbF,List.range_succ]
theorem liF_congr {m i:Nat} {gq gq':Nat→Nat} (h: ∀x,x<i→gq x=gq' x):liF m i gq=liF m i gq':=by
 unfold liF
 refine List.map_congr_left fun x hx=>?_
 rw[h x (List.mem_range.1 hx)]
theorem liF_succ(m i:Nat)(gq:Nat→Nat):liF m (i+1) gq=liF m i gq++ [.slice (some ⟨gq i,0,none⟩) m m]:=by simp[liF,List.range_succ]
theorem liF_snoc (m i g:Nat) (gq:Nat→Nat):liF m i gq++ [.slice (some ⟨g,0,none⟩) m m]=liF m (i+1) (upd gq i g):=by
 rw[liF_succ,upd_same,liF_congr (gq:=gq) (gq':=upd gq i g) (fun x hx=>(upd_ne (by omega)).symm)]
theorem bsF_succ {n i N:Nat} (j:Nat) (_:j<N):upd (bsF n i) (n+i) (.bool true) j=bsF n (i+1) j:=by
 unfold bsF
 by_cases e:j=n+i
 ·subst e
  rw[upd_same]
  congr 1
  exact(decide_eq_true (by omega)).symm
 ·rw[upd_ne e]
  congr 1
  rw[decide_eq_decide]
  omega
theorem SS.fin {w W:World} {m n bt gk gr gv:Nat} {pa pb pc vb vi vv:Value} {gq:Nat→Nat} {A:Nat→Nat→Rat} {B C:Nat→Rat} {lab:Nat→Nat}
    (h:SS w m (n+m+1) bt gk gr gv [pa,pb,pc,.int .i64 (m:Int),.int .i64 (n:Int),vb,.slice (some ⟨gk,0,none⟩) (n+m+1) (n+m+1),.slice (some ⟨gr,0,none⟩) (n+m+1) (n+m+1),vi,vv,.bool (decide ((0:Rat).num<0)),.string (nb (0:Rat).num.natAbs),.string (nb (0:Rat).den),.bool (decide ((1:Rat).num<0)),.string (nb (1:Rat).num.natAbs),.string (nb (1:Rat).den)] vb (lbF n m) vi (liF m m gq) (bsF n m) m gq rwF (fun i=>q3 (B i)) lab W)
    (hm:m≤100) (hn:n≤5000) (hA:MatR w pa m n A) (hB:SlR w pb m B) (hC:SlR w pc n C) (hvv: ∃a c,vv= .slice a m c∧(0<m→a=some ⟨gv,0,none⟩)):
    ∃D:TD,TDo D∧D.w0=w∧D.m=m∧D.n=n∧D.A=A∧D.B=B∧D.C=C∧D.bt=bt∧TM D W (Lp.tab0 m n A B) (fun _=>false):=by
  obtain⟨ab,cb,eb,hb⟩:=h.bas.form;obtain⟨ai,ci,ei,hi⟩:=h.inv.form;rw[lbF_len] at eb hb;rw[liF_len] at ei hi
  have ob:0<m→vb.ownBlock=some (vb.ownBlock.getD 0):=fun h0=>by
    obtain⟨g,_,e⟩:=hb h0;rw[e];rfl
  have oi:0<m→vi.ownBlock=some (vi.ownBlock.getD 0):=fun h0=>by
    obtain⟨g,_,e⟩:=hi h0;rw[e];rfl
  have ne: ∀ {a b c d:Nat},lab a=c→lab b=d→c≠d→a≠b:=fun ha hb hcd e=>hcd (by rw[←ha,←hb,e])
  have lb: ∀h0:0<m,lab (vb.ownBlock.getD 0)=5:=fun h0=>h.l5 _ (ob h0);have li: ∀h0:0<m,lab (vi.ownBlock.getD 0)=6:=fun h0=>h.l6 _ (oi h0)
  refine ⟨{w0:=w,bt,m,n,gb:=vb.ownBlock.getD 0,gk,gr,gi:=vi.ownBlock.getD 0,gv,gq,pa,pb,pc,vb,vk:=.slice (some ⟨gk,0,none⟩) (n+m+1) (n+m+1),vr:=.slice (some ⟨gr,0,none⟩) (n+m+1) (n+m+1),vi,vv,A,B,C},
    { hm:=hm,hn:=hn,pA:=hA,pB:=hB,pC:=hC
      sb:=⟨ab,cb,eb,fun h0=>by obtain⟨g,e1,e2⟩:=hb h0;rw[e1];show some _=some (⟨vb.ownBlock.getD 0,0,none⟩:Addr);rw[e2];rfl⟩
      sk:=⟨_,rfl⟩,sr:=⟨_,rfl⟩
      si:=⟨ai,ci,ei,fun h0=>by obtain⟨g,e1,e2⟩:=hi h0;rw[e1];show some _=some (⟨vi.ownBlock.getD 0,0,none⟩:Addr);rw[e2];rfl⟩
      sv:=hvv
      lt:=h.g1,lk:=h.g2,lr:=h.g3
      lb:=fun h0=>h.bas.own _ (ob h0)
      li:=fun h0=>h.inv.own _ (oi h0)
      lv:=h.g4
      lq:=h.g7
      n1:=⟨ne h.l1 h.l2 (by decide),ne h.l1 h.l3 (by decide),ne h.l2 h.l3 (by decide)⟩
      nb:=fun h0=>⟨ne (lb h0) h.l1 (by decide),ne (lb h0) h.l2 (by decide),ne (lb h0) h.l3 (by decide),ne (lb h0) (li h0) (by decide),ne (lb h0) (h.l4 h0) (by decide)⟩
      ni:=fun h0=>⟨ne (li h0) h.l1 (by decide),ne (li h0) h.l2 (by decide),ne (li h0) h.l3 (by decide),ne (li h0) (h.l4 h0) (by decide)⟩
      nv:=fun h0=>⟨ne (h.l4 h0) h.l1 (by decide),ne (h.l4 h0) h.l2 (by decide),ne (h.l4 h0) h.l3 (by decide)⟩
      nq:=fun i hi=>by
        have h0:0<m:=Nat.lt_of_le_of_lt (Nat.zero_le _) hi
        exact⟨ne (h.l7 i hi) h.l1 (by omega),ne (h.l7 i hi) h.l2 (by omega),ne (h.l7 i hi) h.l3 (by omega),ne (h.l7 i hi) (li h0) (by omega),ne (h.l7 i hi) (h.l4 h0) (by omega),ne (h.l7 i hi) (lb h0) (by omega)⟩
      nn:=fun i j hi hj hij=>ne (h.l7 i hi) (h.l7 j hj) (by omega)},
    rfl,rfl,rfl,rfl,rfl,rfl,rfl,
    { old :=h.old
      fix:=h.fix
      basis:=fun h0=>by
        have:=h.bas.rowC (ob h0);rw[lbF_len] at this
        refine this.congr (fun i hi=>?_)
        have hi:i<m:=hi
        show(lbF n m).getD i undef= .int .i64 (((n+i:Nat)):Int)
        rw[List.getD_eq_getElem?_getD]
        simp[lbF,hi]
      basic:=h.basic.congr (fun j _=>by
        show bsF n m j=_
        unfold bsF
        congr 1
        rw[Bool.eq_iff_iff,decide_eq_true_iff,isBas_iff]
        constructor
        ·intro hj;exact⟨j-n,by show j-n<m;omega,by show n+(j-n)=j;omega⟩
        · rintro ⟨i,hi,e⟩
          have hi:i<m:=hi;have e:n+i=j:=e
          omega)
      barred:=h.barred
      inv:=fun h0=>by
        have:=h.inv.rowC (oi h0);rw[liF_len] at this
        refine this.congr (fun i hi=>?_)
        have hi:i<m:=hi
        show(liF m m gq).getD i undef= .slice (some ⟨gq i,0,none⟩) m m
        rw[List.getD_eq_getElem?_getD]
        simp[liF,hi]
      rows:=fun i hi=>(h.rows i hi).congr (fun k hk=>by
        show rwF i k=q3 (Lp.mat m n A i (n+k))
        rw[Lp.mat_slack i k hk];unfold rwF
        by_cases e:k=i
        ·rw[if_pos e,if_pos e.symm]
        ·rw[if_neg e,if_neg (fun e2=>e e2.symm)])
      vals:=fun h0=>h.vals h0}⟩
end Go.Proofs.YtinmmkcjjlconaaGreat
namespace Go.Proofs.YtinmmkcjjlconaaGreat
open Go.RowKit W Go.Shelf
open Pl (nb bv bv_nb nb_size_zero)
open Lp (S S_succ)
attribute [local go_sem] Oper.semAt_some
def nxs(l:List (Nat×Rat)):List Nat:=(l.filter (fun p=>decide (p.2<0))).map (·.1)
theorem nxs_yes{l:List (Nat×Rat)}{p:Nat×Rat}(h:p.2<0):nxs (l++ [p])=nxs l++ [p.1]:=by simp[nxs,List.filter_append,h]
theorem nxs_no{l:List (Nat×Rat)}{p:Nat×Rat}(h: ¬p.2<0):nxs (l++ [p])=nxs l:=by simp[nxs,List.filter_append,h]
theorem mem_rxs {keep:Nat→Bool} {c:Nat→Rat} {p:Nat×Rat}: ∀ {n:Nat},p∈rxs keep c n↔p.1<n∧keep p.1=true∧p.2=c p.1:=by
 intro n
 induction n with
 |zero=>simp[rxs]
 | succ n ih=>
  cases hk:keep n with
  | true=>
   rw[rxs_yes hk,List.mem_append,ih,List.mem_singleton]
   constructor
   ·rintro (⟨h1,h2,h3⟩|rfl)
    ·exact⟨by omega,h2,h3⟩
    ·exact⟨by show n<n+1;omega,hk,rfl⟩
   ·rintro ⟨h1,h2,h3⟩
    by_cases e:p.1=n
    ·right
     obtain⟨a,b⟩:=p
     dsimp only at e h3
     subst e;rw[h3]
    ·exact .inl ⟨by omega,h2,h3⟩
  | false=>
   rw[rxs_no hk,ih]
   constructor
   ·rintro ⟨h1,h2,h3⟩;exact⟨by omega,h2,h3⟩
   ·rintro ⟨h1,h2,h3⟩
    refine⟨?_,h2,h3⟩
    by_cases e:p.1=n
    ·rw[e,hk] at h2;cases h2
    ·omega
theorem mem_nxs {keep:Nat→Bool} {c:Nat→Rat} {j n:Nat}:j∈nxs (rxs keep c n)↔j<n∧keep j=true∧c j<0:=by
 unfold nxs
 simp only[List.mem_map,List.mem_filter,decide_eq_true_eq]
 constructor
 ·rintro ⟨p,⟨h1,h2⟩,rfl⟩
  obtain⟨a,b,e⟩:=mem_rxs.1 h1
  exact⟨a,b,e▸h2⟩
 ·rintro ⟨h1,h2,h3⟩
  exact⟨(j,c j),⟨mem_rxs.2 ⟨h1,h2,rfl⟩,h3⟩,rfl⟩
theorem rxs_len {keep:Nat→Bool} {c:Nat→Rat}: ∀ {n:Nat},(rxs keep c n).length≤n:=by
 intro n
 induction n with
 |zero=>simp[rxs]
 |succ n ih=>
  cases hk:keep n with
  |true=>rw[rxs_yes hk,List.length_append];simp;omega
  |false=>rw[rxs_no hk];omega
theorem nxs_len (l:List (Nat×Rat)):(nxs l).length≤l.length:=by
 unfold nxs;rw[List.length_map]
 exact List.length_filter_le _ _
theorem sgn_neg' {q:Rat}:Rq.sgn q<0↔q<0:=by
 have h1:=Rq.sgn_cases q;have h2:=Rq.sgn_lt (q:=q);rw[←h2];omega
def intV(l:List Nat):List Value:=l.map (fun(j:Nat)=>Value.int .i64 (j:Int))
theorem intV_snoc(l:List Nat)(j:Nat):intV (l++ [j])=intV l++ [.int .i64 (j:Int)]:=by simp[intV]
theorem intV_len(l:List Nat):(intV l).length=l.length:=by simp[intV]
theorem app_valsIn {F:Fence} {n:Nat} {tS t:TypeId} {z:Value} {by_:Nat} (hu:Tryz.prog.underlying tS=some (.slice t)) (hinf:(Tryz.prog.info? t).map (fun i=>(i.zero,i.size,i.bytes))=some (some z,1,by_)) (hz:z.cells.size=1) (hby:by_≤100)
  {w:World} {ops:Array Oper} {rest:List Oper} {o:Oper} {a:Act} {Q:Exit→Act→World→Prop} {s x:Operand} {v v2:Value} {l l2:List Value} {B2:Nat}
  (hgd:o.guard=none)
  (ho:o.op= .call {callee:=.builtin .append,args:= #[s,x],argTypes:= #[tS,tS]})
  (hs:a.eval s=v) (hx:a.eval x=v2) (B:Nat) (hown:Vals t w B v l) (h2:Vals t w B2 v2 l2) (h1: ∀u∈l2,u.oneCell'=true)
  (hlen:l.length+l2.length<1000000000) (hB:B≤w.heap.size)
  (h: ∀v' w',Vals t w' B v' (l++l2)→w.grownBy w' v.ownBlock→(v'.ownBlock=v.ownBlock∨v'.ownBlock=some w.heap.size)→wpListIn F n Tryz.prog ops Q rest (a.put o.dst v') w'):wpListIn F n Tryz.prog ops Q (o::rest) a w:=by
 refine wpListIn_plain hgd fun K hK=>?_
 obtain⟨v',w',hr,e1,e2,e3⟩:=run_app_vals hu hinf hz hby o.type hown h2 h1 hlen hB;unfold Oper.wpIn
 refine⟨?_,?_⟩
 ·simp[Oper.about,ho,resolve,Target.leads,Sem.run_pure]
 ·rw[Oper.semAt_plain F _ _ (by rw[ho];intro c hc';cases hc')]
  simp[execOp,ho,resolve,invoke,builtin,hs,hx,hr,Result.andThen]
  exact hK _ _ (h v' w' e1 e2 e3)
theorem info_intB:(Tryz.prog.info? 3).map (fun i=>(i.zero,i.size,i.bytes))=some (some (.int .i64 0),1,8):=by kernel_rfl
theorem TM.put_r {D:TD} {w:World} {T:Lp.Tab} {bar:Nat→Bool} (h:TM D w T bar) (o:TDo D) {j:Nat} (hj:j<D.n+D.m+1) (b:Bool):TM D (w.setCell ⟨D.gr,j,none⟩ (.bool b)) T (fun x=>if x=j then b else bar x):=by
 have ho:Off (fun k=>k=D.gr) w (w.setCell ⟨D.gr,j,none⟩ (.bool b)):=(Off.refl (fun k=>k=D.gr) w).set (p:=⟨D.gr,j,none⟩) rfl _
 refine⟨h.old.trans (ho.below (B:=D.w0.heap.size) (fun k hk e=>by subst e;have:=o.lr;omega) h.old.size),h.fix.off ho o.n1.2.1,fun h0=>(h.basis h0).off ho (o.nb h0).2.2.1,h.basic.off ho o.n1.2.2,?_,fun h0=>(h.inv h0).off ho (o.ni h0).2.2.1,fun i hi=>(h.rows i hi).off ho (o.nq i hi).2.2.1,fun h0=>(h.vals h0).off ho (o.nv h0).2.2⟩
 refine(h.barred.put hj (.bool b)).congr (fun x hx=>?_)
 unfold upd
 split<;>rfl
theorem take_has {L:List Nat} {i j:Nat} (b:Bool) (h:i<L.length):(b||(L.take (i+1)).contains j)=if j=L.getD i 0 then true else(b||(L.take i).contains j):=by
 have e:L.take (i+1)=L.take i++ [L.getD i 0]:=by
  rw[List.getD_eq_getElem?_getD,List.getElem?_eq_getElem h,Option.getD_some]
  exact List.take_succ_eq_append_getElem h
 rw[e]
 by_cases hj:j=L.getD i 0
 ·rw[if_pos hj,←hj];simp
 ·rw[if_neg hj]
  simp only[List.contains_eq_mem,List.mem_append,List.mem_singleton,hj,or_false]
theorem own_none0{b:Nat}(h:(Value.slice none 0 0).ownBlock=some b):False:=by cases h
theorem bar_any (D:TD) (o:TDo D) (T:Lp.Tab) (bar:Nat→Bool) (gc:Nat) (pc lc:Array Value) (g:Nat→Rat) (w:World) (h:TM D w T bar) (hway:Lp.Way D.m D.n D.A D.B T) (ec:Enters gc) (hc:Fn1 NoB gc pc lc (D.n+D.m+1) g w)
    (sG: ∀j,j<D.n+D.m+1→Sz (g j) 40000) (sA: ∀i k,i<D.m→Sz (Lp.mat D.m D.n D.A i k) 40000) (sz:SzT D g T):
    Calls Tryz.prog 66 #[.pointer (some ⟨D.bt,0,none⟩),.func (.func gc) pc lc] w fun e w'=>(∃v,e= .returned v)∧Off (fun k=>k=D.gr) w w'∧∃bar2,TM D w' T bar2∧∀j,bar2 j=true↔Lp.barN D.m D.n T g (fun j=>bar j=true) j:=by
  have hown: ∀k,D.Own k→k<w.heap.size:=fun k hk=>h.own_lt hk;have hm:=o.hm;have hn:=o.hn
  refine(callsIn_wide (n:=9)).1 ?_
  refine callsIn_of_wp_marks Tryz.func66 rfl trivial ?_ rfl
  simp only[Tryz.ntmps66,List.size_toArray,List.length_cons,List.length_nil,Nat.reduceAdd,Nat.reduceSub,Array.replicate_succ,Array.replicate_zero,List.push_toArray,List.append_toArray,List.nil_append,List.cons_append]
  refine wpIn_wide.2 ?_
  have ag:=Below.refl w.heap.size w
  go_upto_region 1 with fail
  have hb5:Below w.heap.size w (w.alloc (.cells #[.slice none 0 0] 81)):=ag.alloc (Nat.le_refl _) _;have bE:Rx (w.alloc (.cells #[.slice none 0 0] 81)) w.heap.size [.slice none 0 0]:=Rx.new w _ rfl [.slice none 0 0] 81
  have hs5:w.heap.size<(w.alloc (.cells #[.slice none 0 0] 81)).heap.size:=by simp
  have hU1:=h.below hb5
  have hc1:=(hc.mono (M':=fun k=>k=w.heap.size) (fun k hk e=>by omega) (Nat.le_refl _)).below hb5
  clear ag;generalize w.alloc (.cells #[.slice none 0 0] 81)=W1 at*
  go_wp2_with fail
  with_reducible refine(reduced_any D.bt gc pc lc _).mono ?_
  rintro e wC ⟨rfl,rfl⟩
  go_wp2_with fail
  obtain⟨W2,hW2⟩: ∃W2,W2=(W1.alloc (.cells #[.pointer (some ⟨D.bt,0,none⟩)] 72)).alloc (.cells #[.func (.func gc) pc lc] 43):=⟨_,rfl⟩;have b1:Rx W2 W1.heap.size [.pointer (some ⟨D.bt,0,none⟩)]:=hW2▸(Rx.new W1 _ rfl [.pointer (some ⟨D.bt,0,none⟩)] 72).alloc _
  have b2:Rx W2 (W1.heap.size+1) [.func (.func gc) pc lc]:=hW2▸Rx.new (W1.alloc (.cells #[.pointer (some ⟨D.bt,0,none⟩)] 72)) _ (by simp) [.func (.func gc) pc lc] 43
  have hb2:Below W1.heap.size W1 W2:=hW2▸((Below.refl W1.heap.size W1).alloc (Nat.le_refl _) _).alloc (by simp) _
  rw[←hW2];clear hW2;replace bE:=bE.below hb2;have hU2:=hU1.below hb2;have hc2:=hc1.below hb2;have hbW:=hb5.trans (hb2.mono (Nat.le_of_lt hs5))
  have n1: ¬W1.heap.size=w.heap.size:=by omega
  have n2: ¬W1.heap.size+1=w.heap.size:=by omega
  clear hb2 hb5 hU1 hc1 hs5;generalize W1.heap.size+1=g2 at*;generalize W1.heap.size=g1 at*;clear W1
  have hseq:=reduced_seq 8 (by omega) D o T bar gc pc lc g W2 (fun k=>k=w.heap.size) hU2 (fun k hk e=>by have:=hown k hk;omega) ec hc2 hway.inv.bas g1 g2 (b1.at 0 rfl) (b2.at 0 rfl) b1.lt b2.lt n1 n2 sG (fun i k hi hk=>sz.a i _ hi (by omega)) sA sz.y
  have hsz: ∀p,p∈rxs (rkeep D T bar) (rcost D T g) (D.n+D.m)→Sz p.2 134217728:=rxs_sz (fun j hj=>rcost_sz (by omega) (sG j (by omega)) sz.y (fun k hk=>sA k j hk))
  clear b1 b2 hc2 n1 n2
  refine(wpIn_wide (n:=9)).1 ?_
  apply wpIn_rangeFunc_f (F:=Fence.wide) rfl (by omega) (gf:=120) (lb:= #[.pointer (some ⟨g1,0,none⟩),.pointer (some ⟨g2,0,none⟩)]) rfl trivial (enters_of Tryz.func120 (by kernel_rfl) rfl) hseq (Off.refl _ _) (fun _=>rfl)
    (fun pre OI V=>OI w.heap.size∧∃vs,Rx V w.heap.size [vs]∧Vals 3 V 0 vs (intV (nxs pre))∧∀k,vs.ownBlock=some k→OI k∧k≠w.heap.size) (fun c pre OI V=>False)
    (fun s O' V V' h ho=>by obtain⟨h1,vs,h2,h3,h4⟩:=h;exact⟨h1,vs,h2.off ho (fun e=>e h1),h3.off ho (fun k hk e=>e (h4 k hk).1),h4⟩) (fun c s O' V V' h ho=>h.elim) (O:=fun k=>k=w.heap.size) (fun k hk=>⟨.inl hk,by have:=bE.lt;omega⟩) ⟨rfl,_,bE,Vals.nil _ _ _,fun k hk=>(own_none0 hk).elim⟩
    (AxR (fun b j q=> {tmps:= #[.pointer (some ⟨D.bt,0,none⟩),.func (.func gc) pc lc,undef,undef,.pointer (some ⟨w.heap.size,0,none⟩),.int .i64 (j:Int),.pointer (some ⟨b,0,none⟩),undef,undef,.pointer (some ⟨D.bt,0,none⟩),.func (.func gc) pc lc,.func (.func 120) #[] #[.pointer (some ⟨g1,0,none⟩),.pointer (some ⟨g2,0,none⟩)],.int .i64 (j:Int),rv q,undef,undef,undef,undef,undef,undef,undef,undef,undef,undef,undef,undef,undef,undef,undef,undef,undef,undef,undef,undef],defers:= []})) AxR.own
  case hassign=>
    intro l' x V K hK
    obtain⟨j,q⟩:=x
    simp only[encR,rv]
    gi_wp2
    have hbl:=(Below.refl V.heap.size V).alloc (Nat.le_refl _) (.cells #[.bool (decide (q.num<0)),.string (nb q.num.natAbs),.string (nb q.den)] 33)
    exact hK _ _ hbl ⟨V.heap.size,Nat.le_refl _,Rx.new V _ rfl [.bool (decide (q.num<0)),.string (nb q.num.natAbs),.string (nb q.den)] 33,rfl⟩
  case hbody=>
    rintro l' pre x a' B O1 V hpre ⟨hO5,vs,bV,hV,hvo⟩ hOB hBV hoff hgr ⟨b,hbB,rb,rfl⟩;have hsg:=sgn_neg' (q:=x.2)
    have HS:=Lib.hid (fun W'=>asign_any x.2 W' (hsz x (hpre.subset (by simp))))
    have hlen:(nxs pre).length<10000:=by
      have h1:=nxs_len pre;have h2:=Nat.le_trans hpre.length_le rxs_len
      simp only[List.length_append,List.length_cons,List.length_nil] at h2
      omega
    have c0:=rb.at 0 rfl;have c1:=rb.at 1 rfl;have c2:=rb.at 2 rfl
    simp only[rv] at HS
    generalize hsq:Rq.sgn x.2=sg at*
    by_cases hp:x.2<0
    · have hd:decide (sg<0)=true:=decide_eq_true (hsg.2 hp)
      have hd0:sg<0:=hsg.2 hp;clear hsq hsg
      gi_wp2
      refine⟨trivial,?_⟩
      with_reducible refine(CallsIn.inRound l' (callsIn_wide.2 (HS.out _))).mono ?_
      rintro e w1 ⟨rfl,hb1⟩;clear c0 c1 c2;have hV1:=hV.below hb1;have bV1:=bV.below hb1;have kg:=bV1.at 0 rfl;have kf:=bV1.fr 0 rfl
      have hlit:=Vals.lit (B:=0) w1 (Nat.zero_le _) 3 [.int .i64 (x.1:Int)] (by simp)
      have hVa:=hV1.alloc (.cells #[.int .i64 (x.1:Int)] 3);have bVa:=bV1.alloc (.cells #[.int .i64 (x.1:Int)] 3)
      have hone: ∀u∈ [Value.int .i64 (x.1:Int)],u.oneCell'=true:=fun u hu=>by
        simp only[List.mem_cons,List.not_mem_nil,or_false] at hu
        subst hu
        rfl
      have hll:(intV (nxs pre)).length+ [Value.int .i64 (x.1:Int)].length<1000000000:=by rw[intV_len];simp only[List.length_cons,List.length_nil];omega
      have hoa:Off O1 V (w1.alloc (.cells #[.int .i64 (x.1:Int)] 3)):=off_of (hb1.alloc hb1.size _)
      gi_wp2_with (gi_at_builtin;refine app_valsIn Tryz.underlying81 info_intB rfl (by decide) (by rfl) (by rfl) (by rfl) (by rfl) 0 hVa hlit hone hll (Nat.zero_le _) ?_;intro v2 w2_ e1 e2 e3;obtain⟨aN,kN,cN,rfl⟩: ∃a k c,v2= .slice a k c:=(by obtain⟨a,c,e,_⟩:=e1.form;exact⟨a,_,c,e⟩);have bVb:=bVa.off (off_grown e2) (fun hk=>(hvo _ hk).2 rfl);have kg2:=bVb.at 0 rfl;have kf2:=bVb.fr 0 rfl)
      have bVc:=bVb.put 0 (.slice aN kN cN) (by simp)
      simp only[List.set] at bVc
      have hng: ∀k,(Value.slice aN kN cN).ownBlock=some k→k≠w.heap.size:=fun k hk e=>by
        rcases e3 with e4|e4
        ·exact(hvo k (e4.symm.trans hk)).2 e
        · have h5:=e4.symm.trans hk
          simp only[Option.some.injEq] at h5
          have:=bVa.lt
          omega
      have hk2: ∀k,(Value.slice aN kN cN).ownBlock=some k→O1 k∨V.heap.size≤k:=fun k hk=>by
        rcases e3 with e4|e4
        ·exact .inl (hvo k (e4.symm.trans hk)).1
        · have h5:=e4.symm.trans hk
          simp only[Option.some.injEq] at h5
          have:=hoa.size
          right
          omega
      have hlow:=e1.low;have hof2:Off O1 V w2_:=hoa.trans ((off_grown e2).mono (fun k hk e=>(hvo k e).1))
      have hsz2:(w2_.setCell ⟨w.heap.size,0,none⟩ (.slice aN kN cN)).heap.size=w2_.heap.size:=by simp[World.setCell]
      refine⟨hof2.set (p:=⟨w.heap.size,0,none⟩) hO5 _,fun k=>O1 k∨(Value.slice aN kN cN).ownBlock=some k,fun k hk=>?_,.inl hO5,.slice aN kN cN,bVc,?_,fun k hk=>⟨.inr hk,hng k hk⟩⟩
      · rw[hsz2]
        rcases hk with hk|hk
        ·exact⟨.inl hk,Nat.lt_of_lt_of_le (hgr k hk).2 hof2.size⟩
        ·exact⟨hk2 k hk,hlow k hk⟩
      · rw[nxs_yes hp,intV_snoc]
        exact e1.other (fun k hk e=>hng k hk e.symm) _
    · have hd:decide (sg<0)=false:=decide_eq_false (fun h=>hp (hsg.1 h))
      have hd0: ¬sg<0:=fun h=>hp (hsg.1 h);clear hsq hsg
      gi_wp2
      refine⟨trivial,?_⟩
      with_reducible refine(CallsIn.inRound l' (callsIn_wide.2 (HS.out _))).mono ?_
      rintro e w1 ⟨rfl,hb1⟩;clear c0 c1 c2
      gi_wp2
      exact⟨off_of hb1,O1,fun k hk=>⟨.inl hk,Nat.lt_of_lt_of_le (hgr k hk).2 hb1.size⟩,hO5,vs,bV.below hb1,by rw[nxs_no hp];exact hV.below hb1,hvo⟩
  case hdone=>
    rintro q O2 V hq ho hg hn9 ⟨hO5,vs,bV,hV,hvo⟩ hK
    have hTV:=hU2.off ho (fun k hk e=>by have:=hown k hk;omega)
    have hWV:=(off_of hbW (M:=fun k=>k=w.heap.size)).trans ho;have hgr:D.gr<w.heap.size:=hown _ (.inr (.inr (.inr (.inl rfl))))
    have hbL: ∀j,j∈nxs (rxs (rkeep D T bar) (rcost D T g) (D.n+D.m))↔j<D.n+D.m∧¬Lp.Bas D.m T j∧bar j=false∧(Lp.wc D.m T g).c j<0:=fun j=>by
      rw[mem_nxs,rkeep_iff,rcost_eq hway.src]
      constructor
      ·rintro ⟨a,⟨b,c⟩,d⟩;exact⟨a,b,c,d⟩
      ·rintro ⟨a,b,c,d⟩;exact⟨a,⟨b,c⟩,d⟩
    have hll:(nxs (rxs (rkeep D T bar) (rcost D T g) (D.n+D.m))).length<10000:=by
      have h1:=nxs_len (rxs (rkeep D T bar) (rcost D T g) (D.n+D.m));have h2:=rxs_len (keep:=rkeep D T bar) (c:=rcost D T g) (n:=D.n+D.m)
      omega
    generalize nxs (rxs (rkeep D T bar) (rcost D T g) (D.n+D.m))=L at*;obtain⟨aL,cL,evs,hav⟩:=hV.form;rw[intV_len] at evs hav;subst evs
    have hrow: ∀i,i<L.length→∃g0,aL=some ⟨g0,0,none⟩∧g0≠D.gr∧g0<V.heap.size∧V.cell? ⟨g0,i,none⟩=some (.int .i64 (L.getD i 0:Int)):=fun i hi=>by
      obtain⟨g0,e1,e2⟩:=hav (by omega)
      have h3:=hvo g0 e2
      have h4:=(hV.rowC e2).2 i (by rw[intV_len];exact hi)
      refine⟨g0,e1,fun e=>?_,hV.low g0 e2,?_⟩
      · rcases(hg g0 h3.1).1 with h5|h5
        ·exact h3.2 h5
        ·have:=hbW.size;omega
      · rw[h4]
        simp only[intV,List.getD_eq_getElem?_getD,List.getElem?_map,List.getElem?_eq_getElem hi,Option.map_some,Option.getD_some]
    have HROW:=Lib.hid hrow;have hqV:V.heap[q]? =some (.deferred (some [])):=hK
    have hq0:w.heap.size≤q:=by have:=hbW.size;omega
    obtain⟨cr,hvr⟩:=o.sr;have kg:=bV.at 0 rfl;clear hseq hc hU2 hK hsz bE hrow hav hg hV hvo
    go_wp2_with fail
    clear kg
    go_loopw [23] (fun s23 wr=> ∃i:Nat,i≤L.length∧s23= .int .i64 (i:Int)∧TM D wr T (fun j=>bar j||(L.take i).contains j)∧Off (fun k=>k=D.gr) V wr) (fun s23 _=>L.length-(intOf s23).toNat)
    case atStart=>exact⟨0,by omega,rfl,by simpa using hTV,Off.refl _ _⟩
    case round=>
      obtain⟨i,hi,rfl,hT,hoV⟩:=hrel
      have hw1:IntKind.i64.wrap ((i:Int)+1)=(i:Int)+1:=by rw[IntKind.wrap_i64];omega
      by_cases hlt:i<L.length
      · have hi0:(0:Int)≤(i:Int):=by omega
        have hi1:(i:Int)<(L.length:Int):=by omega
        obtain⟨g0,rfl,hne,hlt0,hcell⟩:=HROW.out i hlt;have kc:=(hoV.cell (p:=⟨g0,i,none⟩) hlt0 hne).trans hcell
        have hLi:L.getD i 0<D.n+D.m:=((hbL _).1 (by rw[List.getD_eq_getElem?_getD,List.getElem?_eq_getElem hlt];exact List.getElem_mem hlt)).1
        have hsn:=fun j=>take_has (j:=j) (bar j) hlt;generalize L.getD i 0=jj at*
        have hj0:(0:Int)≤(jj:Int):=by omega
        have hj1:(jj:Int)<((D.n+D.m+1:Nat):Int):=by omega
        have kv:=hvr▸hT.fix.at 7 rfl
        have kb:=hT.barred.2 jj (by omega)
        have kf:=hT.barred.3 jj
        go_wp2_with fail
        go_roundw
        case rel=>
          refine⟨i+1,by omega,by go_num,?_,hoV.set (p:=⟨D.gr,jj,none⟩) rfl _⟩
          have hT2:=hT.put_r o (j:=jj) (by omega) true
          rw[show(fun j=>bar j||(L.take (i+1)).contains j)=(fun j=>if j=jj then true else(bar j||(L.take i).contains j)) from funext hsn]
          exact hT2
        case measure=>simp[intOf];omega
      · obtain rfl:L.length=i:=by omega
        have hi1: ¬(L.length:Int)<(L.length:Int):=by omega
        rw[List.take_length] at hT
        go_wp2_with fail
        have hqr:=hoV.at hqV (fun e=>by omega)
        have hwr:Off (fun k=>k=D.gr) w wr:=(hWV.mono (fun k hk e=>by omega)).trans hoV
        refine leaves_marks [q] wr (by simp) (fun D' h=>?_) (fun W' hW'=>⟨_,results_none rfl _ _ _,⟨_,rfl⟩,?_,fun j=>bar j||L.contains j,?_,?_⟩)
        · simp only[List.mem_cons,List.not_mem_nil,or_false] at h
          subst h
          exact hqr
        ·exact hwr.more hW' (fun k hk=>.inr (by simp only[List.mem_cons,List.not_mem_nil,or_false] at hk;subst hk;exact hq0))
        · exact hT.off hW' (fun k hk hm=>by
            simp only[List.mem_cons,List.not_mem_nil,or_false] at hm
            have:=hown k hk
            omega)
        · intro j
          show(bar j||L.contains j)=true↔_
          rw[Bool.or_eq_true,List.contains_eq_mem,decide_eq_true_eq,hbL];unfold Lp.barN
          simp only[Bool.not_eq_true]
  case hstop=>
    rintro D' c pre O2 V hq ho hg hn hpre hF hK
    exact hF.elim
end Go.Proofs.YtinmmkcjjlconaaGreat
