/- Parts of the proofs about this seat's statements. -/
import Derived.Test.YtinmmkcjjlconaaGreatL1t
set_option maxRecDepth 100000
set_option maxHeartbeats 16000000
namespace Go.Proofs.YtinmmkcjjlconaaGreat
open Go.RowKit W
open Pl (nb bv bv_nb nb_size_zero)
open Lp (S S_succ)
def valsT(v:Value)(l:List Value):Thing:=⟨fun b=>v.ownBlock=some b,fun W=>Vals 27 W 0 v l,fun _ _ _ h ho hm=>h.off ho hm⟩
structure Parts (m n:Nat) (A:Nat→Nat→Rat) (B C:Nat→Rat) (vA vB vC:Value) (rv_:Nat→Value) (T:Nat→Thing):Prop where
  b:T 0=listT vB (raws m B)
  c:T 1=listT vC (raws n C)
  a:T 3=valsT vA ((List.range m).map rv_)
  r: ∀i,i<m→T (4+i)=listT (rv_ i) (raws n (A i))
theorem Parts.pr {m n:Nat} {A:Nat→Nat→Rat} {B C:Nat→Rat} {vA vB vC:Value} {rv_:Nat→Value} {T:Nat→Thing} {W:World} (h:Parts m n A B C vA vB vC rv_ T) (hp: ∀i,(T i).P W):PR W (.agg #[vA,vB,vC]) m n A B C:=by
 have hb:Rats W 0 vB (raws m B):=by have:=hp 0;rw[h.b] at this;exact this
 have hc:Rats W 0 vC (raws n C):=by have:=hp 1;rw[h.c] at this;exact this
 have ha:Vals 27 W 0 vA ((List.range m).map rv_):=by have:=hp 3;rw[h.a] at this;exact this
 obtain⟨a,cap,e,_⟩:=ha.form
 simp only[List.length_map,List.length_range] at e
 subst e
 refine pr_of ha (by simp) (fun i hi=>?_) hb.slr hc.slr
 have hr:Rats W 0 (rv_ i) (raws n (A i)):=by have:=hp (4+i);rw[h.r i hi] at this;exact this
 have:((List.range m).map rv_).getD i undef=rv_ i:=by simp[List.getD_eq_getElem?_getD,hi]
 rw[this]
 exact hr.slr
theorem upd_o{T:Nat→Thing}{i j:Nat}{t u:Thing}(h:j≠i)(e:T j=u):upd T i t j=u:=(upd_ne h).trans e
section
variable {w0:World} {g:Nat} {cells:List Value} {vA:Value} {q:Nat} {rv_:Nat→Value} {R:Nat→List Raw} {vB:Value} {lB:List Raw} {vC:Value} {lC:List Raw} {vr:Value} {lr:List Raw} {lab:Nat→Nat} {W W':World}
theorem LO.parts {m n:Nat} {A:Nat→Nat→Rat} {B C:Nat→Rat} (h:LO w0 g cells vA m rv_ (fun i=>raws n (A i)) vB (raws m B) vC (raws n C) (.slice none 0 0) [] lab W): ∃T,Sep w0 W T∧Parts m n A B C vA vB vC rv_ T:=by
 have z: ∀ {v:Value} {l:List Raw},Rats W w0.heap.size v l→Rats W 0 v l:=fun h=>h.mono (Nat.zero_le _)
 refine⟨fun i=>if i=0 then listT vB (raws m B) else if i=1 then listT vC (raws n C) else if i=3 then valsT vA ((List.range m).map rv_) else if 4≤i∧i-4<m then listT (rv_ (i-4)) (raws n (A (i-4))) else nothing,⟨h.old,fun i=>?_,fun i b hb=>?_,fun i j hne b h1 h2=>?_⟩,rfl,rfl,rfl,fun i hi=>?_⟩
 ·show Thing.P (if i=0 then _ else _) W
  split
  ·exact z h.B
  ·split
   ·exact z h.C
   ·split
    ·exact h.A.mono (Nat.zero_le _)
    ·split
     ·next hh=>exact z (h.rows _ hh.2)
     ·trivial
 ·have key: ∀ {k c:Nat},lab k=c→c≠0→w0.heap.size≤k∧k<W.heap.size:=fun e hc=>h.fr _ (by omega)
  have hb:Thing.O (if i=0 then _ else _) b:=hb
  split at hb
  ·exact key (h.l3 b hb) (by decide)
  ·split at hb
   ·exact key (h.l4 b hb) (by decide)
   ·split at hb
    ·exact key (h.l2 b hb) (by decide)
    ·split at hb
     ·next hh=>exact key (h.l6 _ hh.2 b hb) (by omega)
     ·exact hb.elim
 ·have lb: ∀x,Thing.O (if x=0 then listT vB (raws m B) else if x=1 then listT vC (raws n C) else if x=3 then valsT vA ((List.range m).map rv_) else if 4≤x∧x-4<m then listT (rv_ (x-4)) (raws n (A (x-4))) else nothing) b→(x=0∧lab b=3)∨(x=1∧lab b=4)∨(x=3∧lab b=2)∨(4≤x∧lab b=2+x):=by
   intro x hx
   split at hx
   ·next e=>exact .inl ⟨e,h.l3 b hx⟩
   ·split at hx
    ·next e=>exact .inr (.inl ⟨e,h.l4 b hx⟩)
    ·split at hx
     ·next e=>exact .inr (.inr (.inl ⟨e,h.l2 b hx⟩))
     ·split at hx
      ·next hh=>exact .inr (.inr (.inr ⟨hh.1,by have:=h.l6 _ hh.2 b hx;omega⟩))
      ·exact hx.elim
  have a1:=lb i h1;have a2:=lb j h2
  omega
 ·show(if 4+i=0 then _ else _)=_
  rw[if_neg (by omega),if_neg (by omega),if_neg (by omega),if_pos ⟨by omega,by omega⟩,show 4+i-4=i by omega]
end
end Go.Proofs.YtinmmkcjjlconaaGreat
namespace Go.Proofs.YtinmmkcjjlconaaGreat
open Go.RowKit W
open Pl (nb)
theorem flat3_set (l:List Raw) (x:Raw): ∀j,j<l.length→(((flat3 l).set (j*3) (.bool x.neg)).set (j*3+1) (.string x.s)).set (j*3+1+1) (.string x.t)=flat3 (l.set j x):=by
 intro j hj
 apply List.ext_getElem?
 intro k
 have hl:(flat3 l).length=l.length*3:=flat3_len l
 by_cases hk:k<l.length*3
 ·obtain⟨i,r,hr,rfl⟩: ∃i r,r<3∧k=i*3+r:=⟨k/3,k %3,Nat.mod_lt _ (by decide),by omega⟩
  have hi:i<l.length:=by omega
  rw[flat3_get (l.set j x) i r (by simpa using hi) hr]
  have h0:=flat3_get l i r hi hr
  by_cases e:i=j
  ·subst e
   have hr3:r=0∨r=1∨r=2:=by omega
   rcases hr3 with rfl|rfl|rfl
   ·rw[List.getElem?_set_ne (by omega),List.getElem?_set_ne (by omega),Nat.add_zero,List.getElem?_set_self (by omega)]
    simp[Raw.cells]
   ·rw[List.getElem?_set_ne (by omega),List.getElem?_set_self (by simp;omega)]
    simp[Raw.cells]
   ·rw[show i*3+2=i*3+1+1 by omega,List.getElem?_set_self (by simp;omega)]
    simp[Raw.cells]
  ·have e1:i*3+r≠j*3+1+1:=by omega
   have e2:i*3+r≠j*3+1:=by omega
   have e3:i*3+r≠j*3:=by omega
   rw[List.getElem?_set_ne (Ne.symm e1),List.getElem?_set_ne (Ne.symm e2),List.getElem?_set_ne (Ne.symm e3),h0]
   simp[List.getElem_set_ne (Ne.symm e)]
 ·rw[List.getElem?_eq_none (by simp[hl];omega),List.getElem?_eq_none (by rw[flat3_len];simp;omega)]
theorem Rats.set {w:World} {B g j n cap:Nat} {l:List Raw} (h:Rats w B (.slice (some ⟨g,0,none⟩) n cap) l) (hj:j<l.length) (v:V3) (x:Raw) (ha:v.a= .bool x.neg) (hb:v.b= .string x.s) (hc:v.c= .string x.t):
  Rats (sto3 w g j v) B (.slice (some ⟨g,0,none⟩) n cap) (l.set j x):=by
 obtain⟨a,cap',e⟩:=h.form
 obtain⟨-,rfl, -⟩:some ⟨g,0,none⟩=a∧n=l.length∧cap=cap':=by simpa using e
 have h1:=(World.ownsRow.stored h (j*3) v.a).1;have h2:=(World.ownsRow.stored h1 (j*3+1) v.b).1;have h3:=(World.ownsRow.stored h2 (j*3+1+1) v.c).1;rw[ha,hb,hc,flat3_set l x j hj] at h3;unfold Rats sto3;rw[List.length_set,ha,hb,hc]
 exact h3
theorem raws_set {m j:Nat} {F:Nat→Rat} {q:Rat} (hj:j<m):(raws m F).set j ⟨decide (q.num<0),nb q.num.natAbs,nb q.den⟩=raws m (upd F j q):=by
 apply List.ext_getElem?
 intro k
 by_cases hk:k<m
 ·by_cases e:k=j
  ·subst e
   rw[List.getElem?_set_self (by rw[raws_len];exact hk)]
   rw[List.getElem?_eq_getElem (by rw[raws_len];exact hk),raws_get,upd_same]
   rfl
  ·rw[List.getElem?_set_ne (Ne.symm e),List.getElem?_eq_getElem (by rw[raws_len];exact hk),List.getElem?_eq_getElem (by rw[raws_len];exact hk),raws_get,raws_get,upd_ne e]
 ·rw[List.getElem?_eq_none (by simp[raws_len];omega),List.getElem?_eq_none (by rw[raws_len];omega)]
def Made (m n:Nat) (A:Nat→Nat→Rat) (B C:Nat→Rat) (_:Nat) (O:Nat→Prop) (v:Value) (W:World):Prop:=
  ∃a0 c0 a1 c1 a2 c2 rv_ T,v= .agg #[.slice a0 m c0,.slice a1 m c1,.slice a2 n c2]∧(∀b,O b↔∃j,(T j).O b)∧(∀j,(T j).P W)∧(∀i j,i≠j→∀b,(T i).O b→¬(T j).O b)∧Parts m n A B C (.slice a0 m c0) (.slice a1 m c1) (.slice a2 n c2) rv_ T∧T 2=nothing
end Go.Proofs.YtinmmkcjjlconaaGreat
namespace Go.Proofs.YtinmmkcjjlconaaGreat
open Go.RowKit W
open Pl (nb bv bv_nb nb_size_zero)
open Lp (S S_succ S_zero S_congr S_mulr Cert Feas Dual Unb Out)
section
variable {m n k:Nat} {A:Nat→Nat→Rat} {B C x y d:Nat→Rat} {v f:Rat}
theorem mul_le_f(hf:0<f){a b:Rat}:a*f≤b*f↔a≤b:=⟨fun h=>Rat.le_of_mul_le_mul_right h hf,fun h=>Rat.mul_le_mul_of_nonneg_right h (Rat.le_of_lt hf)⟩
theorem nn_f(hf:0<f){a:Rat}(h:0≤a):0≤a*f:=Rat.mul_nonneg h (Rat.le_of_lt hf)
theorem S_l(n:Nat)(F G:Nat→Rat)(f:Rat):S n (fun j=>F j*f*G j)=S n (fun j=>F j*G j)*f:=by rw[←S_mulr];exact S_congr fun j _=>by grind
theorem inv_f (hf:0<f):0<1/f∧∀a:Rat,a*f*(1/f)=a:=by
 have h0:f≠0:=Rat.ne_of_gt hf
 have h2:f*(1/f)=1:=by rw[Rat.mul_comm];exact Rat.div_mul_cancel h0
 have h1:0<1/f:=Rat.lt_of_le_of_ne (Lp.div_nonneg (by decide+kernel) hf) (fun e=>by
  rw[←e,Rat.mul_zero] at h2
  exact absurd h2 (by decide+kernel))
 refine⟨h1,fun a=>?_⟩
 rw[Rat.mul_assoc,h2,Rat.mul_one]
theorem row_S (A:Nat→Nat→Rat) (q i:Nat) (f:Rat) (x:Nat→Rat):S n (fun j=>upd A q (fun j=>A q j*f) i j*x j)=if i=q then S n (fun j=>A q j*x j)*f else S n (fun j=>A i j*x j):=by
 split
 ·next e=>subst e;rw[upd_same,S_l]
 ·next e=>rw[upd_ne e]
theorem feas_r (hf:0<f) (q:Nat):Feas m n (upd A q (fun j=>A q j*f)) (upd B q (B q*f)) x↔Feas m n A B x:=by
 constructor
 ·rintro ⟨h1,h2⟩
  refine⟨h1,fun i hi=>?_⟩
  have:=h2 i hi;rw[row_S] at this
  by_cases e:i=q
  ·subst e;rw[if_pos rfl,upd_same] at this;exact(mul_le_f hf).1 this
  ·rwa [if_neg e,upd_ne e] at this
 ·rintro ⟨h1,h2⟩
  refine⟨h1,fun i hi=>?_⟩
  rw[row_S]
  by_cases e:i=q
  ·subst e;rw[if_pos rfl,upd_same];exact(mul_le_f hf).2 (h2 i hi)
  ·rw[if_neg e,upd_ne e];exact h2 i hi
theorem cert_r (hf:0<f) (q:Nat) (h:Cert m n A B C x y v):Cert m n (upd A q (fun j=>A q j*f)) (upd B q (B q*f)) C x (upd y q (y q*(1/f))) v:=by
 obtain⟨g1,g2⟩:=inv_f hf
 refine⟨(feas_r hf q).2 h.px,⟨fun i hi=>?_,fun j hj=>?_⟩,h.vx,?_⟩
 ·by_cases e:i=q
  ·subst e;rw[upd_same];exact nn_f g1 (h.py.1 i hi)
  ·rw[upd_ne e];exact h.py.1 i hi
 ·have e:S m (fun i=>upd A q (fun j=>A q j*f) i j*upd y q (y q*(1/f)) i)=S m (fun i=>A i j*y i):=S_congr fun i _=>by
   by_cases e:i=q
   ·subst e;rw[upd_same,upd_same];have:=g2 (A i j*y i);grind
   ·rw[upd_ne e,upd_ne e]
  rw[e];exact h.py.2 j hj
 ·rw[←h.vy]
  exact S_congr fun i _=>by
   by_cases e:i=q
   ·subst e;rw[upd_same,upd_same];have:=g2 (B i*y i);grind
   ·rw[upd_ne e,upd_ne e]
theorem out_r (hf:0<f) (q:Nat) (h:Out m n A B C k):Out m n (upd A q (fun j=>A q j*f)) (upd B q (B q*f)) C k:=by
 cases h with
 |ok h=>exact .ok (cert_r hf q h)
 |empty h=>exact .empty fun x hx=>h x ((feas_r hf q).1 hx)
 |unb h=>
  refine .unb ⟨(feas_r hf q).2 h.px,h.dpos,fun i hi=>?_,h.dval⟩
  rw[row_S]
  split
  ·next e=>subst e;have:=(mul_le_f hf).2 (h.drow i hi);rwa [Rat.zero_mul] at this
  ·exact h.drow i hi
end
def Num3(b:Bool)(t u:ByteArray)(p:Rat):Prop:=(b=decide (p.num<0)∧t=nb p.num.natAbs∧u=nb p.den)∨(p=0∧b=false∧t=⟨#[]⟩∧u=⟨#[]⟩)
def ecOf(k:Nat):Int:=if k=0 then 0 else if k=1 then 16 else 40
structure SolU (m n:Nat) (A:Nat→Nat→Rat) (B C:Nat→Rat) (k:Nat) (b:Bool) (t u:ByteArray) (p:Rat) (ec:Int):Prop where
  out:Out m n A B C k
  num:Num3 b t u p
  sz:Sz p 33554432
  ec:ec=ecOf k
  ok:k=0→(b=decide (p.num<0)∧t=nb p.num.natAbs∧u=nb p.den)∧∃X Y,Cert m n A B C X Y p
theorem solve_u {m n:Nat} {A:Nat→Nat→Rat} {B C:Nat→Rat} (ft:Fits m n A B C) (p:Value) (w:World) (h:PR w p m n A B C):Calls Tryz.prog 14 #[p] w fun e w'=> ∃k a0 l0 d0 a1 l1 d1 b t u q ec,e= .returned (.tuple #[.agg #[.slice a0 l0 d0,.slice a1 l1 d1,.bool b,.string t,.string u],.int .i64 ec])∧SolU m n A B C k b t u q ec∧Below w.heap.size w w':=
 (solve_c ft p w h).mono (by
  rintro e w' ⟨k,hk⟩;obtain⟨hb,hout,hres⟩:=hk.ex
  rcases hres with⟨rfl,gx,gy,X,Y,v,rfl,hc,_,_,_,_,_,_,_,sv⟩|⟨rfl,rfl⟩|⟨rfl,rfl⟩
  ·exact⟨0,_,_,_,_,_,_,_,_,_,v,0,rfl,⟨hout,.inl ⟨rfl,rfl,rfl⟩,sv,rfl,fun _=>⟨⟨rfl,rfl,rfl⟩,X,Y,hc⟩⟩,hb⟩
  ·exact⟨1,_,_,_,_,_,_,_,_,_,0,16,rfl,⟨hout,.inr ⟨rfl,rfl,rfl,rfl⟩,Sz_zero.mono (by decide),rfl,fun h=>by cases h⟩,hb⟩
  ·exact⟨2,_,_,_,_,_,_,_,_,_,0,40,rfl,⟨hout,.inr ⟨rfl,rfl,rfl,rfl⟩,Sz_zero.mono (by decide),rfl,fun h=>by cases h⟩,hb⟩)
section
open Rq
end
end Go.Proofs.YtinmmkcjjlconaaGreat
namespace Go.Proofs.YtinmmkcjjlconaaGreat
open Go.RowKit W
open Pl (nb)
section
variable {wb W:World} {T:Nat→Thing}
theorem Sep.box{g i:Nat}{cs:List Value}(h:Sep wb W T)(e:T i=boxT g cs):Rx W g cs:=h.as i e
theorem Sep.lst{i:Nat}{v:Value}{l:List Raw}(h:Sep wb W T)(e:T i=listT v l):Rats W 0 v l:=h.as i e
theorem upd_upd (T:Nat→Thing) (i:Nat) (t u:Thing):upd (upd T i t) i u=upd T i u:=funext fun j=>by
 unfold upd
 split<;>rfl
theorem Sep.put {b c m j x:Nat} {F:Nat→Rat} (h:Sep wb W T) (e:T x=listT (.slice (some ⟨b,0,none⟩) m c) (raws m F)) (hj:j<m) (q:Rat):
  Sep wb (sto3 W b j (q3 q)) (upd T x (listT (.slice (some ⟨b,0,none⟩) m c) (raws m (upd F j q)))):=by
 have hr:=h.lst e
 have h1:=Rats.set hr (by rw[raws_len];exact hj) (q3 q) ⟨decide (q.num<0),nb q.num.natAbs,nb q.den⟩ rfl rfl rfl
 rw[raws_set hj] at h1
 refine h.step x _ ?_ h1 (fun b' hb=>.inl (by rw[e];exact hb))
 rw[e]
 exact off_sto3 (M:=fun b'=>(Value.slice (some ⟨b,0,none⟩) m c).ownBlock=some b') rfl j (q3 q)
end
theorem Rats.fr {w:World} {B g n c:Nat} {l:List Raw} (h:Rats w B (.slice (some ⟨g,0,none⟩) n c) l) (j:Nat):w.frozen? ⟨g,j,none⟩=false:=by
 rcases h.2 with⟨e,_⟩|⟨g',cap,cur,e,hb2,hg,_⟩
 ·cases e
 ·obtain rfl:g=g':=by
   simp only[Value.slice.injEq,Option.some.injEq,Addr.mk.injEq] at e
   exact e.1.1
  rw[World.frozen?,hg];rfl
def pre(F:Nat→Rat)(f:Rat)(j x:Nat):Rat:=if x<j then F x*f else F x
theorem pre_zero(F:Nat→Rat)(f:Rat):pre F f 0=F:=funext fun x=>if_neg (by omega)
theorem pre_at(F:Nat→Rat)(f:Rat)(j:Nat):pre F f j j=F j:=if_neg (by omega)
theorem pre_step (F:Nat→Rat) (f:Rat) (j:Nat):upd (pre F f j) j (F j*f)=pre F f (j+1):=funext fun x=>by
 unfold upd pre
 by_cases e:x=j
 ·subst e;simp
 ·rw[if_neg e]
  by_cases h:x<j
  ·rw[if_pos h,if_pos (by omega)]
  ·rw[if_neg h,if_neg (by omega)]
theorem raws_congr{m:Nat}{F G:Nat→Rat}(h: ∀i,i<m→F i=G i):raws m F=raws m G:=List.map_congr_left fun i hi=>by rw[h i (List.mem_range.1 hi)]
theorem pre_all(F:Nat→Rat)(f:Rat)(m:Nat):raws m (pre F f m)=raws m (fun x=>F x*f):=raws_congr fun _ hi=>if_pos hi
section
variable {m n i:Nat} {A:Nat→Nat→Rat} {B C:Nat→Rat} {vA vB vC:Value} {rv_:Nat→Value} {T:Nat→Thing}
theorem Parts.other (h:Parts m n A B C vA vB vC rv_ (fun j=>T (3*j+i))) (hi:i<3) {x:Nat} (t:Thing) (hx:x %3≠i):Parts m n A B C vA vB vC rv_ (fun j=>upd T x t (3*j+i)):=by
 have e:(fun j=>upd T x t (3*j+i))=fun j=>T (3*j+i):=funext fun j=>upd_ne (by omega)
 rw[e];exact h
theorem Parts.setB (h:Parts m n A B C vA vB vC rv_ (fun j=>T (3*j+i))) (_hi:i<3) (B':Nat→Rat):Parts m n A B' C vA vB vC rv_ (fun j=>upd T i (listT vB (raws m B')) (3*j+i)) where
 b:=by show upd T i _ (3*0+i)=_;rw[show 3*0+i=i by omega,upd_same]
 c:=upd_o (by omega) h.c
 a:=upd_o (by omega) h.a
 r:=fun x hx=>upd_o (by omega) (h.r x hx)
end
section
variable {wb W W':World} {T:Nat→Thing}
theorem Sep.app {x:Nat} {v v':Value} {l l':List Raw} (h:Sep wb W T) (e:T x=listT v l) (hg:W.grownBy W' v.ownBlock) (hv:Rats W' 0 v' l') (ho:v'.ownBlock=v.ownBlock∨v'.ownBlock=some W.heap.size):Sep wb W' (upd T x (listT v' l')):=by
 refine h.step x _ ?_ hv (fun b hb=>?_)
 ·rw[e];exact off_grown hg
 ·rw[e];exact own_app hv ho b hb
theorem Sep.setbox {x g j:Nat} {cs:List Value} (h:Sep wb W T) (e:T x=boxT g cs) (v:Value) (hj:j<cs.length):Sep wb (W.setCell ⟨g,j,none⟩ v) (upd T x (boxT g (cs.set j v))):=by
 refine h.step x _ ?_ ((h.box e).put j v hj) (fun b hb=>.inl (by rw[e];exact hb))
 rw[e]
 exact(Off.refl (boxT g cs).O W).set (p:=⟨g,j,none⟩) (show g=g from rfl) v
theorem Vals.set {t:TypeId} {w:World} {B g n cap j:Nat} {l:List Value} (h:Vals t w B (.slice (some ⟨g,0,none⟩) n cap) l) (v:Value):Vals t (w.setCell ⟨g,j,none⟩ v) B (.slice (some ⟨g,0,none⟩) n cap) (l.set j v):=by
 obtain⟨a,cap',e,_⟩:=h.form
 obtain⟨-,rfl, -⟩:some ⟨g,0,none⟩=a∧n=l.length∧cap=cap':=by simpa using e
 have:=(World.ownsRow.stored h j v).1;unfold Vals;rw[List.length_set]
 exact this
theorem Sep.setrow {x g n cap j:Nat} {l:List Value} (h:Sep wb W T) (e:T x=valsT (.slice (some ⟨g,0,none⟩) n cap) l) (v:Value):Sep wb (W.setCell ⟨g,j,none⟩ v) (upd T x (valsT (.slice (some ⟨g,0,none⟩) n cap) (l.set j v))):=by
 have hv:Vals 27 W 0 (.slice (some ⟨g,0,none⟩) n cap) l:=h.as x e
 refine h.step x _ ?_ (hv.set v) (fun b hb=>.inl (by rw[e];exact hb))
 rw[e]
 exact(Off.refl (valsT (.slice (some ⟨g,0,none⟩) n cap) l).O W).set (p:=⟨g,j,none⟩) (show some g=some g from rfl) v
theorem Sep.appV {x:Nat} {v v':Value} {l l':List Value} (h:Sep wb W T) (e:T x=valsT v l) (hg:W.grownBy W' v.ownBlock) (hv:Vals 27 W' 0 v' l') (ho:v'.ownBlock=v.ownBlock∨v'.ownBlock=some W.heap.size):Sep wb W' (upd T x (valsT v' l')):=by
 refine h.step x _ ?_ hv (fun b hb=>?_)
 ·rw[e];exact off_grown hg
 ·rw[e]
  rcases ho with eo|eo
  ·exact .inl (by show v.ownBlock=some b;rw[←eo];exact hb)
  ·have hb:v'.ownBlock=some b:=hb
   have:=hv.low b hb;rw[eo] at hb
   obtain rfl:W.heap.size=b:=by simpa using hb
   exact .inr ⟨Nat.le_refl _,this⟩
end
end Go.Proofs.YtinmmkcjjlconaaGreat
namespace Go.Proofs.YtinmmkcjjlconaaGreat
open Go.RowKit W
open Pl (nb)
section
variable {ops:Array Oper} {Q:Exit→Act→World→Prop} {S:World→Prop} {A:Act} {I L:List (Nat×Value)} {w wb W:World} {i:Nat} {r:Sc} {o:Oper} {ts:List Nat} {vs:List Value} {T:Nat→Thing}
theorem isC(h:Sch Tryz.prog ops Q S A I (.c i r) L w):Sch Tryz.prog ops Q S A I (.c i r) L w:=h
theorem brO{r s:Sc}(h:Sch Tryz.prog ops Q S A I r L w)(k:Sch Tryz.prog ops Q S A I s L w):Sch Tryz.prog ops Q S A I (.b r s) L w:=⟨h,k⟩
def putsL (l:List Value):List (Nat×Value)→List Value
  | []=>l
  |(d,v)::L=>(putsL l L).set d v
theorem puts_list (l:List Value) (D:List Deferred): ∀L,puts ⟨l.toArray,D⟩ L=⟨(putsL l L).toArray,D⟩
 | []=>rfl
 |(d,v)::L=>by
  show(puts ⟨l.toArray,D⟩ L).put (some d) v=_
  rw[puts_list l D L]
  show Act.mk ((putsL l L).toArray.setIfInBounds d v) D=⟨((putsL l L).set d v).toArray,D⟩
  rw[szA]
theorem enP {l l':List Value} {D:List Deferred} (hA:Hid (A=⟨l.toArray,D⟩)) (k:Q .normal ⟨l'.toArray,D⟩ w) (hp:putsL l L=l':=by(conv=>lhs;dsimp only[pt,putsL,List.set_cons_zero,List.set_cons_succ])):Sch Tryz.prog ops Q S A I .e L w:=by
 subst hp;have:=puts_list l D L;rw[←this] at k
 exact enO hA k rfl
theorem liO {k:Nat} {l:List Raw} {cs:List Value} {L':Nat→List (Nat×Value)} (hl:l.length≤1000) (hk:l.length=k) (hc:flat3 l=cs)
  (kk: ∀W g,Rats W 0 (.slice (some ⟨g,0,none⟩) k k) l→w.heap.size≤g→Below w.heap.size w W→S W∧Sch Tryz.prog ops Q S A I r (L' g) W)
  (hi:ops[i]? =some o:=by(conv=>lhs;whnf;arg 1;whnf))
  (ht:o.looksAt ops=ts:=by(conv=>lhs;reduce))
  (hv:vls I L ts=vs:=by(repeat(apply vlC;focus(conv=>lhs;whnf)));exact rfl)
  (hw:Region.wanted o (yl ops I L)=true:=by kernel_rfl)
  (hy: ∀u,Fa u ts vs→Yn ((execOp u.eval o).run Tryz.prog w) (.value (.slice (some ⟨w.heap.size,0,none⟩) k k)) (w.alloc (.cells cs.toArray 33)):=by intro a hF;(try dsimp only[Fa] at hF);go_simp;exact Yn.mk)
  (hL: ∀g,pt o.dst (.slice (some ⟨g,0,none⟩) k k) L=L' g:=by(intro g;conv=>lhs;whnf)):Sch Tryz.prog ops Q S A I (.c i r) L w:=by
 subst hk hc;have h:=kk _ _ (Rats.lit w (Nat.zero_le _) l hl) (Nat.le_refl _) ((Below.refl _ _).alloc (Nat.le_refl _) _)
 exact ruO h.1 h.2 hi ht hv hw hy (hL _)
theorem apS {x B2 k:Nat} {v v2:Value} {l l2:List Raw} {s q:Operand} (hS:Sep wb w T) (e:T x=listT v l) (h2:Rats w B2 v2 l2) (hk:l.length+l2.length=k) (hlen:k<1000000000)
  (kk: ∀a c W,Sep wb W (upd T x (listT (.slice a k c) (l++l2)))→Off (fun b=>v.ownBlock=some b) w W→S W∧Sch Tryz.prog ops Q S A I r (pt o.dst (.slice a k c) L) W)
  (hi:ops[i]? =some o:=by(conv=>lhs;whnf;arg 1;whnf))
  (ht:o.looksAt ops=ts:=by(conv=>lhs;reduce))
  (hv:vls I L ts=vs:=by(repeat(apply vlC;focus(conv=>lhs;whnf)));exact rfl)
  (hg:o.guard=none:=by rfl)
  (ho:o.op= .call {callee:=.builtin .append,args:= #[s,q],argTypes:= #[27,27]}:=by rfl)
  (hs: ∀a,Fa a ts vs→a.eval s=v∧a.eval q=v2:=by intro a hF;exact⟨evF hF.1,evF hF.2.1⟩):Sch Tryz.prog ops Q S A I (.c i r) L w:=by
 have hw:Region.wanted o (yl ops I L)=true:=by simp[Region.wanted,hg]
 subst ht;subst hv
 refine⟨o,hi,hw,fun a K hF hK=>?_⟩
 subst hk
 refine ifw (y:=yielded ops a.tmps) (q:=True) hg (step_rats hg ho (hs a hF).1 (hs a hF).2 0 (hS.lst e) h2 hlen (Nat.zero_le _) fun v' w' e1 e2 e3=>?_)
 have h3:=hS.app e e2 e1 e3;obtain⟨a',c',rfl⟩:=e1.form;rw[List.length_append] at h3⊢;obtain⟨k1,k2⟩:=kk a' c' w' h3 (off_grown e2)
 exact hK _ _ k1 fun _=>k2
theorem liV {k:Nat} {l:List Value} {L':Nat→List (Nat×Value)} (hl:l.length≤1000) (hk:l.length=k)
  (kk: ∀W g,Vals 27 W 0 (.slice (some ⟨g,0,none⟩) k k) l→w.heap.size≤g→Below w.heap.size w W→S W∧Sch Tryz.prog ops Q S A I r (L' g) W)
  (hi:ops[i]? =some o:=by(conv=>lhs;whnf;arg 1;whnf))
  (ht:o.looksAt ops=ts:=by(conv=>lhs;reduce))
  (hv:vls I L ts=vs:=by(repeat(apply vlC;focus(conv=>lhs;whnf)));exact rfl)
  (hw:Region.wanted o (yl ops I L)=true:=by kernel_rfl)
  (hy: ∀u,Fa u ts vs→Yn ((execOp u.eval o).run Tryz.prog w) (.value (.slice (some ⟨w.heap.size,0,none⟩) k k)) (w.alloc (.cells l.toArray 27)):=by intro a hF;(try dsimp only[Fa] at hF);go_simp;exact Yn.mk)
  (hL: ∀g,pt o.dst (.slice (some ⟨g,0,none⟩) k k) L=L' g:=by(intro g;conv=>lhs;whnf)):Sch Tryz.prog ops Q S A I (.c i r) L w:=by
 subst hk;have h:=kk _ _ (Vals.lit w (Nat.zero_le _) _ l hl) (Nat.le_refl _) ((Below.refl _ _).alloc (Nat.le_refl _) _)
 exact ruO h.1 h.2 hi ht hv hw hy (hL _)
theorem apV {x B2 k:Nat} {v v2:Value} {l l2:List Value} {s q:Operand} (hS:Sep wb w T) (e:T x=valsT v l) (h2:Vals 27 w B2 v2 l2) (h1: ∀u∈l2,u.oneCell'=true) (hk:l.length+l2.length=k) (hlen:k<1000000000)
  (kk: ∀a c W,Sep wb W (upd T x (valsT (.slice a k c) (l++l2)))→Off (fun b=>v.ownBlock=some b) w W→S W∧Sch Tryz.prog ops Q S A I r (pt o.dst (.slice a k c) L) W)
  (hi:ops[i]? =some o:=by(conv=>lhs;whnf;arg 1;whnf))
  (ht:o.looksAt ops=ts:=by(conv=>lhs;reduce))
  (hv:vls I L ts=vs:=by(repeat(apply vlC;focus(conv=>lhs;whnf)));exact rfl)
  (hg:o.guard=none:=by rfl)
  (ho:o.op= .call {callee:=.builtin .append,args:= #[s,q],argTypes:= #[26,26]}:=by rfl)
  (hs: ∀a,Fa a ts vs→a.eval s=v∧a.eval q=v2:=by intro a hF;exact⟨evF hF.1,evF hF.2.1⟩):Sch Tryz.prog ops Q S A I (.c i r) L w:=by
 have hw:Region.wanted o (yl ops I L)=true:=by simp[Region.wanted,hg]
 subst ht;subst hv
 refine⟨o,hi,hw,fun a K hF hK=>?_⟩
 have hV:Vals 27 w 0 v l:=hS.as x e;subst hk
 refine ifw (y:=yielded ops a.tmps) (q:=True) hg (step_vals Tryz.underlying26 info_rats rfl (by decide) hg ho (hs a hF).1 (hs a hF).2 0 hV h2 h1 hlen (Nat.zero_le _) fun v' w' e1 e2 e3=>?_)
 have h3:=hS.appV e e2 e1 e3;obtain⟨a',c',rfl,_⟩:=e1.form;rw[List.length_append] at h3⊢;obtain⟨k1,k2⟩:=kk a' c' w' h3 (off_grown e2)
 exact hK _ _ k1 fun _=>k2
theorem ldC {g j:Nat} {u:Value} {L':List (Nat×Value)} (hc:w.cell? ⟨g,j,none⟩=some u) (hS:S w) (kk:Sch Tryz.prog ops Q S A I r L' w)
  (hi:ops[i]? =some o:=by(conv=>lhs;whnf;arg 1;whnf))
  (ht:o.looksAt ops=ts:=by(conv=>lhs;reduce))
  (hv:vls I L ts=vs:=by(repeat(apply vlC;focus(conv=>lhs;whnf)));exact rfl)
  (hw:Region.wanted o (yl ops I L)=true:=by kernel_rfl)
  (hy: ∀a,Fa a ts vs→w.cell? ⟨g,j,none⟩=some u→Yn ((execOp a.eval o).run Tryz.prog w) (.value u) w:=by intro a hF hc;(try dsimp only[Fa] at hF);go_simp;exact Yn.mk)
  (hL:pt o.dst u L=L':=by(conv=>lhs;whnf)):Sch Tryz.prog ops Q S A I (.c i r) L w:=
 ruO hS kk hi ht hv hw (fun a h=>hy a h hc) hL
def LkE(L L':List (Nat×Value)):Prop:= ∀t,lk t L=lk t L'
theorem lk_cons(t d:Nat)(v:Value)(L:List (Nat×Value)):lk t ((d,v)::L)=if t=d then some v else lk t L:=rfl
theorem LkE.pt {L L':List (Nat×Value)} (h:LkE L L') (d:Option Tmp) (v:Value):LkE (pt d v L) (pt d v L'):=by
 cases d with
 |none=>exact h
 |some d=>intro t;show lk t ((d,v)::L)=lk t ((d,v)::L');rw[lk_cons,lk_cons,h t]
theorem LkE.vl{L L':List (Nat×Value)}(h:LkE L L')(t:Nat):vl t I L=vl t I L':=by show(match lk t L with|some v=>v|none=>(lk t I).getD undef)=_;rw[h t];rfl
theorem LkE.swap {L:List (Nat×Value)} {d e:Option Tmp} (hne:d≠e) (u v:Value):LkE (_root_.Go.Proofs.YtinmmkcjjlconaaGreat.pt e v (_root_.Go.Proofs.YtinmmkcjjlconaaGreat.pt d u L)) (_root_.Go.Proofs.YtinmmkcjjlconaaGreat.pt d u (_root_.Go.Proofs.YtinmmkcjjlconaaGreat.pt e v L)):=by
 cases d with
 |none=>intro t;rfl
 | some d=>cases e with
  |none=>intro t;rfl
  |some e=>
   have hne:d≠e:=fun h=>hne (by rw[h])
   intro t
   show lk t ((e,v)::(d,u)::L)=lk t ((d,u)::(e,v)::L)
   simp only[lk_cons]
   by_cases h1:t=e
   ·rw[if_pos h1,if_neg (fun h2=>hne (h2.symm.trans h1)),if_pos h1]
   ·rw[if_neg h1,if_neg h1]
theorem LkE.vls {L L':List (Nat×Value)} (h:LkE L L'): ∀ts,Go.Proofs.YtinmmkcjjlconaaGreat.vls I L ts=Go.Proofs.YtinmmkcjjlconaaGreat.vls I L' ts
 | []=>rfl
 |t::ts=>by
  show Go.Proofs.YtinmmkcjjlconaaGreat.vl t I L::_=Go.Proofs.YtinmmkcjjlconaaGreat.vl t I L'::_
  rw[h.vl t,LkE.vls h ts]
theorem LkE.yl {L L':List (Nat×Value)} (h:LkE L L'):Go.Proofs.YtinmmkcjjlconaaGreat.yl ops I L=Go.Proofs.YtinmmkcjjlconaaGreat.yl ops I L':=funext fun j=>by
 unfold Go.Proofs.YtinmmkcjjlconaaGreat.yl
 cases (ops[j]?).bind (·.dst) with
 |none=>rfl
 |some t=>simp only[h.vl t]
theorem puts_get? (A:Act) (t:Nat): ∀L,(puts A L).tmps[t]? =(A.tmps[t]?).map (fun x=>(lk t L).getD x)
 | []=>by
  show A.tmps[t]? =(A.tmps[t]?).map (fun x=>x)
  simp
 | (d,v)::L=>by
  show((puts A L).tmps.setIfInBounds d v)[t]? =_
  rw[Array.getElem?_setIfInBounds,lk_cons,puts_get? A t L]
  by_cases e:d=t
  ·subst e
   rw[if_pos rfl,if_pos rfl,puts_size]
   by_cases hs:d<A.tmps.size
   ·rw[if_pos hs,Array.getElem?_eq_getElem hs];rfl
   ·rw[if_neg hs,Array.getElem?_eq_none (by omega)];rfl
  ·rw[if_neg e,if_neg (Ne.symm e)]
theorem puts_def (A:Act): ∀L,(puts A L).defers=A.defers
 | []=>rfl
 |_::L=>puts_def A L
theorem LkE.puts {L L':List (Nat×Value)} (h:LkE L L'):Go.Proofs.YtinmmkcjjlconaaGreat.puts A L=Go.Proofs.YtinmmkcjjlconaaGreat.puts A L':=by
 have h1:(Go.Proofs.YtinmmkcjjlconaaGreat.puts A L).tmps=(Go.Proofs.YtinmmkcjjlconaaGreat.puts A L').tmps:=by
  apply Array.ext_getElem?
  intro t
  rw[puts_get?,puts_get?,h t]
 have h2:(Go.Proofs.YtinmmkcjjlconaaGreat.puts A L).defers=(Go.Proofs.YtinmmkcjjlconaaGreat.puts A L').defers:=by rw[puts_def,puts_def]
 cases hA:Go.Proofs.YtinmmkcjjlconaaGreat.puts A L
 cases hB:Go.Proofs.YtinmmkcjjlconaaGreat.puts A L'
 rw[hA,hB] at h1 h2
 simp only at h1 h2
 rw[h1,h2]
theorem sch_congr {P:Program} (r:Sc): ∀ {L L':List (Nat×Value)} {w:World},LkE L L'→Sch P ops Q S A I r L w→Sch P ops Q S A I r L' w:=by
 induction r with
 |e=>intro L L' w hE h;have h:Q .normal (puts A L) w:=h;rw[hE.puts] at h;exact h
 |p i r ih=>
  rintro L L' w hE ⟨o,v,hi,hw,hy,k⟩
  exact⟨o,v,hi,hE.yl▸hw,hE.vls (I:=I) _▸hy,ih (hE.pt _ _) k⟩
 |k i r ih=>
  rintro L L' w hE ⟨o,hi,hw,k⟩
  exact⟨o,hi,hE.yl▸hw,ih (hE.pt _ _) k⟩
 |c i r ih=>
  rintro L L' w hE ⟨o,hi,hw,h⟩
  refine⟨o,hi,hE.yl▸hw,fun a K hF hK=>h a K (by rw[hE.vls];exact hF) fun v w' hs hk=>hK v w' hs fun hs2=>ih (hE.pt _ _) (hk hs2)⟩
 |b r s hr hs=>rintro L L' w hE ⟨h1,h2⟩;exact⟨hr hE h1,hs hE h2⟩
theorem ld2 {P:Program} {i j:Nat} {r:Sc} {oi oj:Oper} {u v:Value} (hi:ops[i]? =some oi) (hj:ops[j]? =some oj) (hS:S w)
  (hwi: ∀L,Region.wanted oi (yl ops I L)=true) (hwj: ∀L,Region.wanted oj (yl ops I L)=true) (hne:oi.dst≠oj.dst)
  (h1: ∀a,Fa a (oi.looksAt ops) (vls I L (oi.looksAt ops))→(execOp a.eval oi).run P w= .ok (.value u) w)
  (h2: ∀a,Fa a (oj.looksAt ops) (vls I L (oj.looksAt ops))→(execOp a.eval oj).run P w= .ok (.value v) w)
  (e1:vls I (pt oi.dst u L) (oj.looksAt ops)=vls I L (oj.looksAt ops)) (e2:vls I (pt oj.dst v L) (oi.looksAt ops)=vls I L (oi.looksAt ops))
  (k:Sch P ops Q S A I r (pt oj.dst v (pt oi.dst u L)) w):Sch P ops Q S A I (.b (.c i (.c j r)) (.c j (.c i r))) L w:=by
 have one: ∀ {x:Nat} {o:Oper} {z:Value} {L:List (Nat×Value)} {r:Sc},ops[x]? =some o→Region.wanted o (yl ops I L)=true→(∀a,Fa a (o.looksAt ops) (vls I L (o.looksAt ops))→(execOp a.eval o).run P w= .ok (.value z) w)→Sch P ops Q S A I r (pt o.dst z L) w→Sch P ops Q S A I (.c x r) L w:=by
  intro x o z L r hx hw hy k
  refine⟨o,hx,hw,fun a K hF hK=>?_⟩
  unfold Oper.wp;rw[hy a hF]
  exact hK _ _ hS fun _=>k
 refine⟨one hi (hwi _) h1 (one hj (hwj _) (by rw[e1];exact h2) k),one hj (hwj _) h2 (one hi (hwi _) (by rw[e2];exact h1) ?_)⟩
 exact sch_congr r (LkE.swap hne u v) k
theorem isB2{i j:Nat}{r:Sc}(h:Sch Tryz.prog ops Q S A I (.b (.c i (.c j r)) (.c j (.c i r))) L w):Sch Tryz.prog ops Q S A I (.b (.c i (.c j r)) (.c j (.c i r))) L w:=h
theorem ld2W {F1 F2:Prop} {i j:Nat} {r:Sc} {oi oj:Oper} {u v:Value} {ts1 ts2:List Nat} {vs1 vs2:List Value} {L':List (Nat×Value)} (f1:F1) (f2:F2) (hS:S w) (k:Sch Tryz.prog ops Q S A I r L' w)
  (hi:ops[i]? =some oi:=by(conv=>lhs;whnf;arg 1;whnf))
  (hj:ops[j]? =some oj:=by(conv=>lhs;whnf;arg 1;whnf))
  (ht1:oi.looksAt ops=ts1:=by(conv=>lhs;reduce))
  (ht2:oj.looksAt ops=ts2:=by(conv=>lhs;reduce))
  (hv1:vls I L ts1=vs1:=by(repeat(apply vlC;focus(conv=>lhs;whnf)));exact rfl)
  (hv2:vls I L ts2=vs2:=by(repeat(apply vlC;focus(conv=>lhs;whnf)));exact rfl)
  (hy1: ∀a,Fa a ts1 vs1→F1→Yn ((execOp a.eval oi).run Tryz.prog w) (.value u) w:=by intro a hF hc;(try dsimp only[Fa] at hF);(try dsimp only[E3,q3] at hc);go_simp;exact Yn.mk)
  (hy2: ∀a,Fa a ts2 vs2→F2→Yn ((execOp a.eval oj).run Tryz.prog w) (.value v) w:=by intro a hF hc;(try dsimp only[Fa] at hF);(try dsimp only[E3,q3] at hc);go_simp;exact Yn.mk)
  (e1:vls I (pt oi.dst u L) ts2=vs2:=by(repeat(apply vlC;focus(conv=>lhs;whnf)));exact rfl)
  (e2:vls I (pt oj.dst v L) ts1=vs1:=by(repeat(apply vlC;focus(conv=>lhs;whnf)));exact rfl)
  (hwi:oi.guard=none:=by rfl) (hwj:oj.guard=none:=by rfl) (hne:oi.dst≠oj.dst:=by decide)
  (hL:pt oj.dst v (pt oi.dst u L)=L':=by(conv=>lhs;whnf)):Sch Tryz.prog ops Q S A I (.b (.c i (.c j r)) (.c j (.c i r))) L w:=by
 subst ht1 ht2 hL
 refine ld2 hi hj hS (fun L=>by simp[Region.wanted,hwi]) (fun L=>by simp[Region.wanted,hwj]) hne (fun a hF=>hy1 a (hv1▸hF) f1) (fun a hF=>hy2 a (hv2▸hF) f2) (e1.trans hv2.symm) (e2.trans hv1.symm) k
theorem stB {x g j:Nat} {cs:List Value} {u v:Value} {L':List (Nat×Value)} (hS:Sep wb w T) (e:T x=boxT g cs) (hj:cs[j]? =some u)
  (kk: ∀W,Sep wb W (upd T x (boxT g (cs.set j v)))→S W∧Sch Tryz.prog ops Q S A I r L' W)
  (hi:ops[i]? =some o:=by(conv=>lhs;whnf;arg 1;whnf))
  (ht:o.looksAt ops=ts:=by(conv=>lhs;reduce))
  (hv:vls I L ts=vs:=by(repeat(apply vlC;focus(conv=>lhs;whnf)));exact rfl)
  (hw:Region.wanted o (yl ops I L)=true:=by kernel_rfl)
  (hy: ∀a,Fa a ts vs→w.cell? ⟨g,j,none⟩=some u→w.frozen? ⟨g,j,none⟩=false→Yn ((execOp a.eval o).run Tryz.prog w) .skip (w.setCell ⟨g,j,none⟩ v):=by intro a hF hc hf;(try dsimp only[Fa] at hF);go_simp;exact Yn.mk)
  (hL:pt o.dst undef L=L':=by(conv=>lhs;whnf)):Sch Tryz.prog ops Q S A I (.c i r) L w:=by
 have h:=kk _ (hS.setbox e v (List.getElem?_eq_some_iff.1 hj).1)
 exact rsO h.1 h.2 hi ht hv hw (fun a hF=>hy a hF ((hS.box e).at j hj) ((hS.box e).fr j hj)) hL
theorem stL {x b m c j:Nat} {F:Nat→Rat} {L':List (Nat×Value)} (q:Rat) (hS:Sep wb w T) (e:T x=listT (.slice (some ⟨b,0,none⟩) m c) (raws m F)) (hj:j<m)
  (kk: ∀W,Sep wb W (upd T x (listT (.slice (some ⟨b,0,none⟩) m c) (raws m (upd F j q))))→S W∧Sch Tryz.prog ops Q S A I r L' W)
  (hi:ops[i]? =some o:=by(conv=>lhs;whnf;arg 1;whnf))
  (ht:o.looksAt ops=ts:=by(conv=>lhs;reduce))
  (hv:vls I L ts=vs:=by(repeat(apply vlC;focus(conv=>lhs;whnf)));exact rfl)
  (hw:Region.wanted o (yl ops I L)=true:=by kernel_rfl)
  (hy: ∀u,Fa u ts vs→E3 w b j (q3 (F j))→Yn ((execOp u.eval o).run Tryz.prog w) .skip (sto3 w b j (q3 q)):=by intro a hF hc;(try dsimp only[Fa] at hF);dsimp only[E3] at hc;go_simp;exact Yn.mk)
  (hL:pt o.dst undef L=L':=by(conv=>lhs;whnf)):Sch Tryz.prog ops Q S A I (.c i r) L w:=by
 have hr:=hS.lst e;obtain⟨b',eb,hg⟩:=hr.slr.get hj
 obtain rfl:b=b':=by simpa using eb
 have h:=kk _ (hS.put e hj q)
 exact rsO h.1 h.2 hi ht hv hw (fun a hF=>hy a hF ⟨hg _ (Below.refl _ _),hr.fr _,hr.fr _,hr.fr _⟩) hL
theorem stV {x g m c j:Nat} {l:List Value} {u v:Value} {L':List (Nat×Value)} (hS:Sep wb w T) (e:T x=valsT (.slice (some ⟨g,0,none⟩) m c) l) (hj:l[j]? =some u)
  (kk: ∀W,Sep wb W (upd T x (valsT (.slice (some ⟨g,0,none⟩) m c) (l.set j v)))→S W∧Sch Tryz.prog ops Q S A I r L' W)
  (hi:ops[i]? =some o:=by(conv=>lhs;whnf;arg 1;whnf))
  (ht:o.looksAt ops=ts:=by(conv=>lhs;reduce))
  (hv:vls I L ts=vs:=by(repeat(apply vlC;focus(conv=>lhs;whnf)));exact rfl)
  (hw:Region.wanted o (yl ops I L)=true:=by kernel_rfl)
  (hy: ∀a,Fa a ts vs→w.cell? ⟨g,j,none⟩=some u→w.frozen? ⟨g,j,none⟩=false→Yn ((execOp a.eval o).run Tryz.prog w) .skip (w.setCell ⟨g,j,none⟩ v):=by intro a hF hc hf;(try dsimp only[Fa] at hF);go_simp;exact Yn.mk)
  (hL:pt o.dst undef L=L':=by(conv=>lhs;whnf)):Sch Tryz.prog ops Q S A I (.c i r) L w:=by
 have hr:Vals 27 w 0 (.slice (some ⟨g,0,none⟩) m c) l:=hS.as x e;have hc:=hr.rowC rfl;have h:=kk _ (hS.setrow e v)
 exact rsO h.1 h.2 hi ht hv hw (fun a hF=>hy a hF (by
  rw[hc.2 j (List.getElem?_eq_some_iff.1 hj).1]
  simp[List.getD_eq_getElem?_getD,hj]) (hc.3 _)) hL
theorem Sep.e3 {x b m c j:Nat} {F:Nat→Rat} (hS:Sep wb w T) (e:T x=listT (.slice (some ⟨b,0,none⟩) m c) (raws m F)) (hj:j<m):E3 w b j (q3 (F j)):=by
 have hr:=hS.lst e;obtain⟨b',eb,hg⟩:=hr.slr.get hj
 obtain rfl:b=b':=by simpa using eb
 exact⟨hg _ (Below.refl _ _),hr.fr _,hr.fr _,hr.fr _⟩
theorem Sep.rowat {x g m c j:Nat} {l:List Value} {u:Value} (hS:Sep wb w T) (e:T x=valsT (.slice (some ⟨g,0,none⟩) m c) l) (hj:l[j]? =some u):w.cell? ⟨g,j,none⟩=some u:=by
 have hr:Vals 27 w 0 (.slice (some ⟨g,0,none⟩) m c) l:=hS.as x e;rw[(hr.rowC rfl).2 j (List.getElem?_eq_some_iff.1 hj).1]
 simp[List.getD_eq_getElem?_getD,hj]
theorem Sep.alloc(h:Sep wb w T)(o:Obj):Sep wb (w.alloc o) T:=h.below ((Below.refl _ _).alloc (Nat.le_refl _) o)
theorem Sep.newbox {x:Nat} (h:Sep wb w T) (hx:T x=nothing) (cs:List Value) (t:TypeId):Sep wb (w.alloc (.cells cs.toArray t)) (upd T x (boxT w.heap.size cs)):=
 h.new x _ hx ((Below.refl _ _).alloc (Nat.le_refl _) _) (Rx.new w _ rfl cs t) (fun b hb=>by
  have hb:b=w.heap.size:=hb;subst hb
  simp)
theorem Sep.newlit {x:Nat} {g k:Nat} {l:List Raw} (h:Sep wb w T) (hx:T x=nothing) (hr:Rats W 0 (.slice (some ⟨g,0,none⟩) k k) l) (hg:w.heap.size≤g) (hb:Below w.heap.size w W):Sep wb W (upd T x (listT (.slice (some ⟨g,0,none⟩) k k) l)):=
 h.new x _ hx hb hr (fun b hb=>by
  have hb:some g=some b:=hb
  obtain rfl:g=b:=by simpa using hb
  exact⟨hg,hr.low _ rfl⟩)
def two(a b:Thing)(i:Nat):Thing:=if i=0 then a else if i=3 then b else nothing
theorem Sep.only {a b:Thing} (h:Sep wb w T) (e0:T 0=a) (e3:T 3=b):Sep wb w (two a b) where
 acc:=h.acc
 p :=fun i=>by
  unfold two
  split
  ·exact e0▸h.p 0
  ·split
   ·exact e3▸h.p 3
   ·trivial
 o :=fun i x hx=>by
  unfold two at hx
  split at hx
  ·exact h.o 0 x (by rw[e0];exact hx)
  ·split at hx
   ·exact h.o 3 x (by rw[e3];exact hx)
   ·exact hx.elim
 d :=fun i j hne x h1 h2=>by
  unfold two at h1 h2
  split at h1
  ·split at h2
   ·omega
   ·split at h2
    ·exact h.d 0 3 (by decide) x (by rw[e0];exact h1) (by rw[e3];exact h2)
    ·exact h2.elim
  ·split at h1
   ·split at h2
    ·exact h.d 3 0 (by decide) x (by rw[e3];exact h1) (by rw[e0];exact h2)
    ·split at h2
     ·omega
     ·exact h2.elim
   ·exact h1.elim
theorem own_none{b:Nat}(h:(Value.slice none 0 0).ownBlock=some b):False:=by cases h
theorem Sep.two0 (w:World):Sep w w (two (listT (.slice none 0 0) []) (listT (.slice none 0 0) [])) where
 acc:=Below.refl _ _
 p :=fun i=>by
  unfold two
  split
  ·exact Rats.nil _ _
  ·split
   ·exact Rats.nil _ _
   ·trivial
 o :=fun i x hx=>by
  unfold two at hx
  split at hx
  ·exact(own_none hx).elim
  ·split at hx
   ·exact(own_none hx).elim
   ·exact hx.elim
 d :=fun i j _ x h1 _=>by
  unfold two at h1
  split at h1
  ·exact(own_none h1).elim
  ·split at h1
   ·exact(own_none h1).elim
   ·exact h1.elim
theorem Sep.join {wc:World} {T2:Nat→Thing} (h:Sep wb wc T) (h2:Sep wc w T2) (N:Nat):Sep wb w (fun i=>if i<N then T i else T2 (i-N)) where
 acc:=h.acc.trans (h2.acc.mono h.acc.size)
 p:=fun i=>by
  show Thing.P (if i<N then _ else _) w
  split
  ·exact(h.below h2.acc).p i
  ·exact h2.p _
 o:=fun i x hx=>by
  have hx:Thing.O (if i<N then _ else _) x:=hx;have s1:=h.acc.size;have s2:=h2.acc.size
  split at hx
  ·have:=h.o i x hx;omega
  ·have:=h2.o _ x hx;omega
 d :=fun i j hne x h1 h3=>by
  have h1:Thing.O (if i<N then _ else _) x:=h1;have h3:Thing.O (if j<N then _ else _) x:=h3
  split at h1
  ·split at h3
   ·exact h.d i j hne x h1 h3
   ·have:=(h.o i x h1).2
    have:=(h2.o _ x h3).1
    omega
  ·split at h3
   ·have:=(h.o j x h3).2
    have:=(h2.o _ x h1).1
    omega
   ·exact h2.d _ _ (by omega) x h1 h3
theorem Sep.gen1{x:Nat}{t:Thing}(h:Sep wb w (upd T x t)): ∃T',Sep wb w T'∧(∀z,z≠x→T' z=T z)∧T' x=t:=⟨_,h,fun _ hz=>upd_ne hz,upd_same _ _ _⟩
theorem Sep.gen2 {x y:Nat} {t u:Thing} (h:Sep wb w (upd (upd T x t) y u)) (hne:x≠y): ∃T',Sep wb w T'∧(∀z,z≠x→z≠y→T' z=T z)∧T' x=t∧T' y=u:=
 ⟨_,h,fun _ hx hy=>(upd_ne hy).trans (upd_ne hx),(upd_ne hne).trans (upd_same _ _ _),upd_same _ _ _⟩
theorem Sep.vals{x:Nat}{v:Value}{l:List Value}(h:Sep wb w T)(e:T x=valsT v l):Vals 27 w 0 v l:=h.as x e
end
section
variable {m n N i:Nat} {A:Nat→Nat→Rat} {B C:Nat→Rat} {vA vB vC:Value} {rv_:Nat→Value} {T T':Nat→Thing}
theorem Parts.congr (h:Parts m n A B C vA vB vC rv_ (fun j=>T (3*j+i))) (hi:i<3) (e: ∀x,x<3*(4+m)→T' x=T x):Parts m n A B C vA vB vC rv_ (fun j=>T' (3*j+i)) where
 b:=(e _ (by omega)).trans h.b
 c:=(e _ (by omega)).trans h.c
 a:=(e _ (by omega)).trans h.a
 r:=fun x hx=>(e _ (by omega)).trans (h.r x hx)
theorem Parts.of (h:Parts m n A B C vA vB vC rv_ (fun j=>T (3*j+i))) (e: ∀j,T' (3*j+i)=T (3*j+i)):Parts m n A B C vA vB vC rv_ (fun j=>T' (3*j+i)):=by
 have:(fun j=>T' (3*j+i))=fun j=>T (3*j+i):=funext e;rw[this];exact h
end
end Go.Proofs.YtinmmkcjjlconaaGreat
namespace Go.Proofs.YtinmmkcjjlconaaGreat
open Go.RowKit W
open Pl (nb)
open Lp (S Q Cert Feas Dual Unb Out)
section
variable {α:Type _} {m n:Nat} {F:Nat→α} {a b:α}
def ap1(m:Nat)(F:Nat→α)(a:α)(i:Nat):α:=if i<m then F i else a
theorem ap1_lt{i:Nat}(h:i<m):ap1 m F a i=F i:=if_pos h
theorem ap1_at:ap1 m F a m=a:=if_neg (by omega)
theorem map_ap1 {β:Type _} (f:α→β):(List.range (m+1)).map (fun i=>f (ap1 m F a i))=(List.range m).map (fun i=>f (F i))++ [f a]:=by
 rw[List.range_succ,List.map_append,List.map_singleton,ap1_at]
 congr 1
 exact List.map_congr_left fun i hi=>by rw[ap1_lt (List.mem_range.1 hi)]
end
theorem raws_ap1(m:Nat)(F:Nat→Rat)(a:Rat):raws (m+1) (ap1 m F a)=raws m F++ [⟨decide (a.num<0),nb a.num.natAbs,nb a.den⟩]:=map_ap1 rawq
theorem vals_ap1(m:Nat)(F:Nat→Value)(a:Value):(List.range (m+1)).map (ap1 m F a)=(List.range m).map F++ [a]:=map_ap1 id
theorem vals_set {m j:Nat} {F:Nat→Value} {v:Value} (hj:j<m):((List.range m).map F).set j v=(List.range m).map (upd F j v):=by
 apply List.ext_getElem?
 intro k
 by_cases hk:k<m
 ·by_cases e:k=j
  ·subst e
   rw[List.getElem?_set_self (by simpa using hk)]
   simp[hk,upd_same]
  ·rw[List.getElem?_set_ne (Ne.symm e)]
   simp[hk,upd_ne e]
 ·rw[List.getElem?_eq_none (by simp;omega),List.getElem?_eq_none (by simp;omega)]
theorem vals_at{m j:Nat}{F:Nat→Value}(hj:j<m):((List.range m).map F)[j]? =some (F j):=by simp[hj]
section
variable {m n k:Nat} {A A':Nat→Nat→Rat} {B B' C C':Nat→Rat}
end
end Go.Proofs.YtinmmkcjjlconaaGreat
namespace Go.Proofs.YtinmmkcjjlconaaGreat
open Go.RowKit W
open Pl (nb bv bv_nb nb_size_zero)
open Lp (S S_succ Cert Out Unb)
theorem sgn_le0 {p q:Rat}:Rq.sgn (p-q)≤0↔p≤q:=by
 have h1:=Rq.sgn_cases (p-q);have h2:=sgn_pos (q:=p-q)
 constructor
 ·intro h
  apply Rat.not_lt.1
  intro hlt
  have:0<p-q:=by grind
  have:=h2.2 this
  omega
 ·intro h
  rcases h1 with e|e|e
  ·omega
  ·omega
  ·have:0<p-q:=h2.1 (by omega)
   grind
theorem sgn_ge0 {p q:Rat}:0≤Rq.sgn (p-q)↔q≤p:=by
 have e:Rq.sgn (p-q)= -Rq.sgn (q-p):=by rw[←Rq.sgn_neg,Rat.neg_sub]
 rw[e,←sgn_le0]
 omega
end Go.Proofs.YtinmmkcjjlconaaGreat
namespace Go.Proofs.YtinmmkcjjlconaaGreat
open Go.RowKit W
open Pl (nb)
open Lp (S Q Cert Feas Dual Unb Out swp swp_lt swp_swp)
theorem Sep.perm {wb w:World} {T:Nat→Thing} (h:Sep wb w T) (σ:Nat→Nat) (hσ: ∀i,σ (σ i)=i):Sep wb w (fun i=>T (σ i)) where
 acc:=h.acc
 p:=fun i=>h.p _
 o:=fun i b hb=>h.o (σ i) b hb
 d:=fun i j hne b h1 h2=>h.d (σ i) (σ j) (fun e=>hne (by rw[←hσ i,e,hσ])) b h1 h2
def sg(a b x:Nat):Nat:=if x %3=2∧12≤x then 3*(4+swp a b (x/3-4))+2 else x
theorem sg_row (a b q:Nat):sg a b (3*(4+q)+2)=3*(4+swp a b q)+2:=by
 unfold sg
 rw[if_pos (by omega),show(3*(4+q)+2)/3-4=q by omega]
theorem sg_o{a b x:Nat}(h:x %3≠2∨x<12):sg a b x=x:=if_neg (by omega)
theorem sg_sg (a b x:Nat):sg a b (sg a b x)=x:=by
 by_cases h:x %3=2∧12≤x
 ·obtain⟨q,rfl⟩: ∃q,x=3*(4+q)+2:=⟨x/3-4,by omega⟩
  rw[sg_row,sg_row,swp_swp]
 ·have e:=sg_o (a:=a) (b:=b) (x:=x) (by omega)
  rw[e,e]
theorem upd_swp {α:Type _} (F:Nat→α) (a b:Nat):upd (upd F a (F b)) b (F a)=fun i=>F (swp a b i):=funext fun i=>by
 unfold upd swp
 by_cases e:i=b
 ·subst e
  rw[if_pos rfl]
  by_cases e2:i=a
  ·subst e2;rw[if_pos rfl]
  ·rw[if_neg e2,if_pos rfl]
 ·rw[if_neg e]
  by_cases e2:i=a
  ·subst e2;rw[if_pos rfl,if_pos rfl]
  ·rw[if_neg e2,if_neg e2,if_neg e]
section
variable {m n k a b c d:Nat} {A:Nat→Nat→Rat} {B C x y:Nat→Rat} {v:Rat}
def Sw(m a b:Nat):Prop:=(a<m∧b<m)∨(m=0∧a=0∧b=0)
theorem Sw.lt (h:Sw m a b) {i:Nat} (hi:i<m):swp a b i<m:=by
 rcases h with⟨h1,h2⟩|⟨rfl,_,_⟩
 ·exact swp_lt h1 h2 hi
 ·omega
theorem sw_of (m:Nat) {x y:Int} (hx:0≤x) (hy:0≤y): ∃a b:Nat,(0<m→(a:Int)=Int.tmod x (m:Int))∧(0<m→(b:Int)=Int.tmod y (m:Int))∧Sw m a b:=by
 by_cases h:m=0
 ·exact⟨0,0,fun h1=>by omega,fun h1=>by omega,.inr ⟨h,rfl,rfl⟩⟩
 ·have h0:(0:Int)<(m:Int):=by omega
  have a0:=Int.tmod_nonneg (m:Int) hx;have b0:=Int.tmod_nonneg (m:Int) hy;have a1:=Int.tmod_lt_of_pos x h0;have b1:=Int.tmod_lt_of_pos y h0
  exact⟨(Int.tmod x (m:Int)).toNat,(Int.tmod y (m:Int)).toNat,fun _=>by omega,fun _=>by omega,.inl ⟨by omega,by omega⟩⟩
end
theorem Sep.gen3 {wb w:World} {T:Nat→Thing} {x y v:Nat} {t u s:Thing} (h:Sep wb w (upd (upd (upd T x t) y u) v s)) (h1:x≠y) (h2:x≠v) (h3:y≠v): ∃T',Sep wb w T'∧(∀z,z≠x→z≠y→z≠v→T' z=T z)∧T' x=t∧T' y=u∧T' v=s:=
 ⟨_,h,fun _ hx hy hv=>(upd_ne hv).trans ((upd_ne hy).trans (upd_ne hx)),(upd_ne h2).trans ((upd_ne h1).trans (upd_same _ _ _)),(upd_ne h3).trans (upd_same _ _ _),upd_same _ _ _⟩
theorem parts_swp {m n a b:Nat} {A:Nat→Nat→Rat} {B C:Nat→Rat} {vA vB vC:Value} {rv_:Nat→Value} {T U:Nat→Thing} (hp:Parts m n A B C vA vB vC rv_ (fun j=>T (3*j+2))) (h1:a<m) (h2:b<m) (hk: ∀z,z≠11→z≠2→U z=T z)
  (h11:U 11=valsT vA ((List.range m).map (fun i=>rv_ (swp a b i)))) (hB:U 2=listT vB (raws m (fun i=>B (swp a b i)))):Parts m n (fun i=>A (swp a b i)) (fun i=>B (swp a b i)) C vA vB vC (fun i=>rv_ (swp a b i)) (fun j=>U (sg a b (3*j+2))) where
 b:=by show U (sg a b 2)=_;rw[sg_o (by omega)];exact hB
 c:=by show U (sg a b 5)=_;rw[sg_o (by omega)];exact(hk 5 (by decide) (by decide)).trans hp.c
 a:=by show U (sg a b 11)=_;rw[sg_o (by omega)];exact h11
 r:=fun q hq=>by
  show U (sg a b (3*(4+q)+2))=_
  rw[sg_row]
  exact(hk _ (by omega) (by omega)).trans (hp.r _ (swp_lt h1 h2 hq))
theorem Sep.one0(w:World):Sep w w (two (listT (.slice none 0 0) []) nothing):=(Sep.two0 w).step 3 nothing (Off.refl _ _) trivial (fun _ h=>h.elim)|>.only rfl rfl
end Go.Proofs.YtinmmkcjjlconaaGreat
namespace Go.Proofs.YtinmmkcjjlconaaGreat
open Go.RowKit W
open Pl (nb)
section
variable {ops:Array Oper} {Q:Exit→Act→World→Prop} {S:World→Prop} {A:Act} {I L:List (Nat×Value)} {w wb W:World} {i:Nat} {r:Sc} {o:Oper} {ts:List Nat} {vs:List Value} {T:Nat→Thing}
theorem apRO {x k m:Nat} {v v2:Value} {l:List Raw} {F:Nat→Rat} {s q:Operand} (hS:Sep wb w T) (e:T x=listT v l) (h2:SlO w v2 m F) (hk:l.length+m=k) (hlen:k<1000000000)
  (kk: ∀a c W,Sep wb W (upd T x (listT (.slice a k c) (l++raws m F)))→Off (fun b=>v.ownBlock=some b) w W→S W∧Sch Tryz.prog ops Q S A I r (pt o.dst (.slice a k c) L) W)
  (hi:ops[i]? =some o:=by(conv=>lhs;whnf;arg 1;whnf))
  (ht:o.looksAt ops=ts:=by(conv=>lhs;reduce))
  (hv:vls I L ts=vs:=by(repeat(apply vlC;focus(conv=>lhs;whnf)));exact rfl)
  (hg:o.guard=none:=by rfl)
  (ho:o.op= .call {callee:=.builtin .append,args:= #[s,q],argTypes:= #[27,27]}:=by rfl)
  (hs: ∀a,Fa a ts vs→a.eval s=v∧a.eval q=v2:=by intro a hF;exact⟨evF hF.1,evF hF.2.1⟩):Sch Tryz.prog ops Q S A I (.c i r) L w:=by
 have hw:Region.wanted o (yl ops I L)=true:=by simp[Region.wanted,hg]
 subst ht;subst hv
 refine⟨o,hi,hw,fun a K hF hK=>?_⟩
 subst hk
 refine ifw (y:=yielded ops a.tmps) (q:=True) hg (step_slO hg ho (hs a hF).1 (hs a hF).2 0 (hS.lst e) h2 hlen (Nat.zero_le _) fun v' w' e1 e2 e3=>?_)
 have h3:=hS.app e e2 e1 e3;obtain⟨a',c',rfl⟩:=e1.form;rw[List.length_append,raws_len] at h3⊢;obtain⟨k1,k2⟩:=kk a' c' w' h3 (off_grown e2)
 exact hK _ _ k1 fun _=>k2
theorem apR {x k m:Nat} {v v2:Value} {l:List Raw} {F:Nat→Rat} {s q:Operand} (hS:Sep wb w T) (e:T x=listT v l) (h2:SlR w v2 m F) (hk:l.length+m=k) (hlen:k<1000000000)
  (kk: ∀a c W,Sep wb W (upd T x (listT (.slice a k c) (l++raws m F)))→Off (fun b=>v.ownBlock=some b) w W→S W∧Sch Tryz.prog ops Q S A I r (pt o.dst (.slice a k c) L) W)
  (hi:ops[i]? =some o:=by(conv=>lhs;whnf;arg 1;whnf))
  (ht:o.looksAt ops=ts:=by(conv=>lhs;reduce))
  (hv:vls I L ts=vs:=by(repeat(apply vlC;focus(conv=>lhs;whnf)));exact rfl)
  (hg:o.guard=none:=by rfl)
  (ho:o.op= .call {callee:=.builtin .append,args:= #[s,q],argTypes:= #[27,27]}:=by rfl)
  (hs: ∀a,Fa a ts vs→a.eval s=v∧a.eval q=v2:=by intro a hF;exact⟨evF hF.1,evF hF.2.1⟩):Sch Tryz.prog ops Q S A I (.c i r) L w:=
 apRO hS e h2.o hk hlen kk hi ht hv hg ho hs
theorem alS {x:Nat} {zs:List Value} {t:TypeId} {L':Nat→List (Nat×Value)} (hS:Sep wb w T) (hx:T x=nothing)
  (kk: ∀g W,Sep wb W (upd T x (boxT g zs))→S W∧Sch Tryz.prog ops Q S A I r (L' g) W)
  (hi:ops[i]? =some o:=by(conv=>lhs;whnf;arg 1;whnf))
  (ht:o.looksAt ops=ts:=by(conv=>lhs;reduce))
  (hv:vls I L ts=vs:=by(repeat(apply vlC;focus(conv=>lhs;whnf)));exact rfl)
  (hw:Region.wanted o (yl ops I L)=true:=by kernel_rfl)
  (hy: ∀u,Fa u ts vs→Yn ((execOp u.eval o).run Tryz.prog w) (.value (.pointer (some ⟨w.heap.size,0,none⟩))) (w.alloc (.cells zs.toArray t)):=by intro a hF;(try dsimp only[Fa] at hF);go_simp;exact Yn.mk)
  (hL: ∀g,pt o.dst (.pointer (some ⟨g,0,none⟩)) L=L' g:=by(intro g;conv=>lhs;whnf)):Sch Tryz.prog ops Q S A I (.c i r) L w:=by
 have h:=kk _ _ (hS.newbox hx zs t)
 exact ruO h.1 h.2 hi ht hv hw hy (hL _)
def set5(w:World)(g:Nat)(a b c d e:Value):World:=((((w.setCell ⟨g,0,none⟩ a).setCell ⟨g,1,none⟩ b).setCell ⟨g,2,none⟩ c).setCell ⟨g,3,none⟩ d).setCell ⟨g,4,none⟩ e
end
end Go.Proofs.YtinmmkcjjlconaaGreat
namespace Go.Proofs.YtinmmkcjjlconaaGreat
open Go.RowKit W
open Pl (nb bv bv_nb nb_size_zero)
open Lp (S S_succ Cert Out Unb)
structure LessR (k:Nat) (F:Nat→Rat) (vl:Value) (w:World) (e:Ending) (w':World):Prop where
  ex: ∃a c,e= .returned (.slice a k c)∧Rats w' 0 (.slice a k c) (raws k F)∧(∀b,(Value.slice a k c).ownBlock=some b→vl.ownBlock=some b∨(w.heap.size≤b∧b<w'.heap.size))∧Below w.heap.size w w'
theorem less_any (k:Nat) (F G:Nat→Rat) (f:Rat) (a b:Option Addr) (c d:Nat) (w:World) (hl:Rats w 0 (.slice a k c) (raws k F)) (hr:SlR w (.slice b k d) k G) (hk:k≤1000) (sF: ∀j,j<k→Sz (F j) 16000000) (sG: ∀j,j<k→Sz (G j) 160000) (sf:Sz f 160000):
  Calls Tryz.prog 49 #[.slice a k c,rv f,.slice b k d] w fun e w'=>LessR k (fun j=>F j-f*G j) (.slice a k c) w e w':=by
 have HSf:=Lib.hid (fun W=>rsign2_any f W (sf.mono (by decide)))
 have HSg:=Lib.hid (fun j hj W=>rsign2_any (G j) W ((sG j hj).mono (by decide)))
 have HM:=Lib.hid (fun j hj W=>rmul2_any f (G j) W (sf.mono (by decide)) ((sG j hj).mono (by decide)))
 have HSu:=Lib.hid (fun j hj W=>rsub2_any (F j) (f*G j) W ((sF j hj).mono (by decide)) ((Sz_mul sf (sG j hj)).mono (by decide)))
 have HL:=Lib.hid (fun W (hb:Below w.heap.size w W)=>hl.below hb);have HF:=Lib.hid (fun j (hj:j<k)=>hl.slr.get hj);have HG:=Lib.hid (fun j (hj:j<k)=>hr.get hj);have hf:=Rq.sgn_zero (q:=f)
 simp only[rv] at HSf HSg HM HSu
 unfold rv;clear hl hr sF sG sf
 go_enter Tryz.func49,Tryz.ntmps49
 have⟨bf,ag⟩:=opn1 w [.bool (decide (f.num<0)),.string (nb f.num.natAbs),.string (nb f.den)] 33
 go_upto_region 1 with fail
 generalize w.alloc (.cells #[.bool (decide (f.num<0)),.string (nb f.num.natAbs),.string (nb f.den)] 33)=W0 at*;obtain⟨gf,hgf⟩: ∃g,g=w.heap.size:=⟨_,rfl⟩;rw[←hgf] at bf
 simp only[←hgf]
 have kgf:w.heap.size≤gf:=by omega
 clear hgf;have⟨cf0,ff0,cf1,ff1,cf2,ff2⟩:=bf.all3
 go_wp2_with fail
 clear cf0 ff0 cf1 ff1 cf2 ff2
 with_reducible refine(HSf.out _).mono ?_
 rintro e wX ⟨rfl,am⟩;replace ag:=ag.tr am;replace bf:=bf.below am;clear am
 by_cases h0:f=0
 ·have hs:=hf.2 h0
  have HH:=Lib.hid h0;clear h0 hf
  go_wp2_with fail
  go_ret
  refine⟨_,_,rfl,?_,fun b hb=>.inl hb,ag⟩
  have e:raws k (fun j=>F j-f*G j)=raws k F:=raws_congr fun i _=>by
   show F i-f*G i=F i
   rw[HH.out,Rat.zero_mul,Rat.sub_eq_add_neg]
   grind
  rw[e]
  exact HL.out _ ag
 ·have hs: ¬Rq.sgn f=0:=fun e=>h0 (hf.1 e)
  have hsb:(Rq.sgn f==0)=false:=by simpa using hs
  clear h0 hf;have HB0:=Lib.hid (fun W (hb:Below wX.heap.size wX W)=>ag.tr hb);have HBf:=Lib.hid (fun W (hb:Below wX.heap.size wX W)=>bf.below hb);clear bf ag kgf;obtain⟨wB,hwB⟩: ∃wB,wB=wX:=⟨_,rfl⟩
  simp only[←hwB] at*
  clear hwB
  go_wp2_with fail
  go_loopw [7,8] (fun s7 s8 wr=> ∃j:Nat,j≤k∧s8= .int .i64 (j:Int)∧Sep wB wr (two (listT s7 (raws j (fun j=>F j-f*G j))) nothing)) (fun _ s8 _=>k-(intOf s8).toNat)
  case atStart=>exact⟨0,by omega,rfl,Sep.one0 wB⟩
  case round=>
   obtain⟨j,hj,rfl,hS2⟩:=hrel
   by_cases hlt:j<k
   ·have hj0:(0:Int)≤(j:Int):=by omega
    have hj1:(j:Int)<(k:Int):=by omega
    have hw1:IntKind.i64.wrap ((j:Int)+1)=(j:Int)+1:=by rw[IntKind.wrap_i64];omega
    have hBw:=HB0.out _ hS2.acc;obtain⟨gF,rfl,hcF⟩:=HF.out j hlt;obtain⟨gG,rfl,hcG⟩:=HG.out j hlt;have HCF:=Lib.hid (fun W hb=>hcF W (HB0.out W hb));have HCG:=Lib.hid (fun W hb=>hcG W (HB0.out W hb));have HSj:=Lib.hid (HSg.out j hlt);have HMj:=Lib.hid (HM.out j hlt);have HUj:=Lib.hid (HSu.out j hlt);have HX:Hid (raws (j+1) (fun j=>F j-f*G j)=raws j (fun j=>F j-f*G j)++ [⟨decide ((F j-f*G j).num<0),nb (F j-f*G j).num.natAbs,nb (F j-f*G j).den⟩]):=Lib.hid (raws_succ j (fun j=>F j-f*G j))
    have hgz:=Rq.sgn_zero (q:=G j)
    have HZ0:Hid (G j=0→F j-f*G j=F j):=Lib.hid (fun e=>by rw[e,Rat.mul_zero];grind)
    clear hcF hcG hBw;generalize f*G j=p' at*;generalize F j-p'=y' at*;generalize F j=x' at*;generalize G j=g' at*;obtain⟨k0,k1,k2⟩:=HCG.out _ hS2.acc;have ag:=Below.refl wr.heap.size wr
    go_wp2_with fail
    clear k0 k1 k2
    with_reducible refine(HSj.out _).mono ?_
    rintro e wX ⟨rfl,am⟩;replace ag:=ag.tr am;replace hS2:=hS2.below am;clear am
    by_cases hg:g'=0
    ·have hgs:=hgz.2 hg
     have ey:=HZ0.out hg;clear hg hgz HZ0 HMj HUj;rw[ey] at HX;clear ey;obtain⟨k0,k1,k2⟩:=HCF.out _ hS2.acc
     have hL:=Rats.lit (B:=0) wX (Nat.zero_le _) [⟨decide (x'.num<0),nb x'.num.natAbs,nb x'.den⟩] (by simp)
     have hSa:=hS2.alloc (.cells #[.bool (decide (x'.num<0)),.string (nb x'.num.natAbs),.string (nb x'.den)] 33)
     have hln:(raws j (fun j=>F j-f*G j)).length+ [(⟨decide (x'.num<0),nb x'.num.natAbs,nb x'.den⟩:Raw)].length<1000000000:=by rw[raws_len];simp;omega
     go_wp2_with (at_builtin;refine app_rats (by rfl) (by rfl) (by rfl) (by rfl) 0 (hSa.lst (i:=0) rfl) hL hln (Nat.zero_le _) ?_;intro v2 w2_ e1 e2 e3)
     have hSb:=hSa.app (x:=0) rfl e2 e1 e3;rw[←HX.out] at hSb;clear hS2 hSa hL hln e1 e2 e3 ag HSj HX k0 k1 k2;replace hSb:=hSb.only (a:=listT v2 (raws (j+1) (fun j=>F j-f*G j))) (b:=nothing) rfl rfl
     go_roundw
     case rel=>exact⟨j+1,by omega,by go_num,hSb⟩
     case measure=>simp[intOf];omega
    ·have hgs: ¬Rq.sgn g'=0:=fun e=>hg (hgz.1 e)
     clear hg hgz HZ0 ag
     go_upto_region 9 with fail
     replace hS2:=hS2.drew
     refine wp_schH (S:=fun w'=>w'.cell? ⟨gF,j*3,none⟩=some (.bool (decide (x'.num<0)))∧w'.cell? ⟨gF,j*3+1,none⟩=some (.string (nb x'.num.natAbs))∧w'.cell? ⟨gF,j*3+1+1,none⟩=some (.string (nb x'.den))∧w'.cell? ⟨gG,j*3,none⟩=some (.bool (decide (g'.num<0)))∧w'.cell? ⟨gG,j*3+1,none⟩=some (.string (nb g'.num.natAbs))∧w'.cell? ⟨gG,j*3+1+1,none⟩=some (.string (nb g'.den))∧w'.cell? ⟨gf,0,none⟩=some (.bool (decide (f.num<0)))∧w'.cell? ⟨gf,1,none⟩=some (.string (nb f.num.natAbs))∧w'.cell? ⟨gf,2,none⟩=some (.string (nb f.den))) (hc:=by as_aux_lemma=>kernel_rfl) (.p 0 (.p 1 (.p 2 (.p 3 (.p 4 (.p 5 (.p 6 (.p 7 (.p 8 (.p 9 (.c 10 (.c 11 (.c 12 (.c 13 (.p 14 .e))))))))))))))) [7,0,8,4,2] fun zA WD hA aq=>?_
     simp only[←aq.out] at hS2
     clear aq
     refine⟨⟨(HCF.out _ hS2.acc).1,(HCF.out _ hS2.acc).2.1,(HCF.out _ hS2.acc).2.2,(HCG.out _ hS2.acc).1,(HCG.out _ hS2.acc).2.1,(HCG.out _ hS2.acc).2.2,(HBf.out _ hS2.acc).at 0 rfl,(HBf.out _ hS2.acc).at 1 rfl,(HBf.out _ hS2.acc).at 2 rfl⟩,fun hS0=>?_⟩
     repeat' first
      |((with_reducible refine isP ?_);refine tkO ?_)
      |(
       with_reducible refine isC (i:=10) ?_
       refine caO (i:=10) (HMj.out _) fun e wn hz=>?_
       obtain⟨rfl,hb⟩:=hz;replace hS2:=hS2.below hb;clear hb
       refine⟨_,rfl,⟨(HCF.out _ hS2.acc).1,(HCF.out _ hS2.acc).2.1,(HCF.out _ hS2.acc).2.2,(HCG.out _ hS2.acc).1,(HCG.out _ hS2.acc).2.1,(HCG.out _ hS2.acc).2.2,(HBf.out _ hS2.acc).at 0 rfl,(HBf.out _ hS2.acc).at 1 rfl,(HBf.out _ hS2.acc).at 2 rfl⟩,?_⟩)
      |(
       with_reducible refine isC (i:=11) ?_
       refine caO (i:=11) (HUj.out _) fun e wn hz=>?_
       obtain⟨rfl,hb⟩:=hz;replace hS2:=hS2.below hb;clear hb
       refine⟨_,rfl,⟨(HCF.out _ hS2.acc).1,(HCF.out _ hS2.acc).2.1,(HCF.out _ hS2.acc).2.2,(HCG.out _ hS2.acc).1,(HCG.out _ hS2.acc).2.1,(HCG.out _ hS2.acc).2.2,(HBf.out _ hS2.acc).at 0 rfl,(HBf.out _ hS2.acc).at 1 rfl,(HBf.out _ hS2.acc).at 2 rfl⟩,?_⟩)
      |(
       with_reducible refine isC (i:=12) ?_
       refine liO (i:=12) (k:=1) (l:= [⟨decide (y'.num<0),nb y'.num.natAbs,nb y'.den⟩]) (by simp) rfl rfl fun _ _ hr hg hb=>?_
       replace hS2:=hS2.below hb;have hlit:=hr;clear hr hg hb
       refine⟨⟨(HCF.out _ hS2.acc).1,(HCF.out _ hS2.acc).2.1,(HCF.out _ hS2.acc).2.2,(HCG.out _ hS2.acc).1,(HCG.out _ hS2.acc).2.1,(HCG.out _ hS2.acc).2.2,(HBf.out _ hS2.acc).at 0 rfl,(HBf.out _ hS2.acc).at 1 rfl,(HBf.out _ hS2.acc).at 2 rfl⟩,?_⟩)
      |(
       with_reducible refine isC (i:=13) ?_
       refine apS (i:=13) (x:=0) (k:=j+1) hS2 rfl hlit (by rw[raws_len];rfl) (by omega) fun ax cx wa hz _=>?_
       replace hS2:=hz;clear hz hlit;rw[←HX.out] at hS2
       refine⟨⟨(HCF.out _ hS2.acc).1,(HCF.out _ hS2.acc).2.1,(HCF.out _ hS2.acc).2.2,(HCG.out _ hS2.acc).1,(HCG.out _ hS2.acc).2.1,(HCG.out _ hS2.acc).2.2,(HBf.out _ hS2.acc).at 0 rfl,(HBf.out _ hS2.acc).at 1 rfl,(HBf.out _ hS2.acc).at 2 rfl⟩,?_⟩)
     replace hS2:=hS2.only (a:=listT (.slice ax (j+1) cx) (raws (j+1) (fun j=>F j-f*G j))) (b:=nothing) rfl rfl
     refine enP hA ?_
     clear hA HX HMj HUj HSj
     go_wp2_with fail
     go_roundw
     case rel=>exact⟨j+1,by omega,by go_num,hS2⟩
     case measure=>simp[intOf];omega
   ·obtain rfl:k=j:=by omega
    have hi1: ¬(k:Int)<(k:Int):=by omega
    have hR:=hS2.lst (i:=0) rfl;obtain⟨ay,cy,ey⟩:=hR.form;rw[raws_len] at ey;subst ey;have hB:=HB0.out _ hS2.acc
    go_wp2_with fail
    go_ret
    refine⟨_,_,rfl,hR,fun b hb=>.inr ?_,hB⟩
    have h1:=hS2.o 0 b hb;have h2:=(HB0.out wB (Below.refl _ _)).size
    omega
end Go.Proofs.YtinmmkcjjlconaaGreat
namespace Go.Proofs.YtinmmkcjjlconaaGreat
open Go.RowKit W
open Pl (nb)
open Lp (Tab)
def intT(v:Value)(l:List Value):Thing:=⟨fun b=>v.ownBlock=some b,fun W=>Vals 3 W 0 v l,fun _ _ _ h ho hm=>h.off ho hm⟩
def rowF(N:Nat)(U:Tab)(i j:Nat):Rat:=if j<N then U.a i j else U.b i
def costF(N:Nat)(U:Tab)(j:Nat):Rat:=if j<N then U.c j else-U.v
theorem row_lt{N:Nat}{U:Tab}{i j:Nat}(h:j<N):rowF N U i j=U.a i j:=if_pos h
theorem row_end{N:Nat}{U:Tab}{i:Nat}:rowF N U i N=U.b i:=if_neg (by omega)
theorem cost_lt{N:Nat}{U:Tab}{j:Nat}(h:j<N):costF N U j=U.c j:=if_pos h
theorem cost_end{N:Nat}{U:Tab}:costF N U N= -U.v:=if_neg (by omega)
structure RTp (m N:Nat) (U:Tab) (b:Nat) (ar:Option Addr) (cr:Nat) (ab:Option Addr) (cb:Nat) (ac:Option Addr) (cc:Nat) (rv_:Nat→Value) (T:Nat→Thing):Prop where
  bx:T 0=boxT b [.slice ar m cr,.slice ab m cb,.slice ac (N+1) cc]
  rs:T 1=valsT (.slice ar m cr) ((List.range m).map rv_)
  bs:T 2=intT (.slice ab m cb) ((List.range m).map fun i=>.int .i64 (U.bas i:Int))
  co:T 3=listT (.slice ac (N+1) cc) (raws (N+1) (costF N U))
  ro: ∀i,i<m→T (4+i)=listT (rv_ i) (raws (N+1) (rowF N U i))
def RT(w0 W:World)(b m N:Nat)(U:Tab):Prop:= ∃ar cr ab cb ac cc rv_ T,Sep w0 W T∧RTp m N U b ar cr ab cb ac cc rv_ T
theorem RT.below {w0 W W':World} {b m N:Nat} {U:Tab} (h:RT w0 W b m N U) (hb:Below W.heap.size W W'):RT w0 W' b m N U:=by
 obtain⟨ar,cr,ab,cb,ac,cc,rv_,T,hS,hp⟩:=h
 exact⟨ar,cr,ab,cb,ac,cc,rv_,T,hS.below hb,hp⟩
def prow(N:Nat)(U:Tab)(r c j:Nat):Rat:=rowF N U r j/U.a r c
theorem pivot_row (N:Nat) (U:Tab) (r c:Nat):rowF N (Lp.pivot U r c) r=prow N U r c:=funext fun j=>by
 unfold rowF prow rowF Lp.pivot
 split<;>simp
theorem pivot_oth (N:Nat) (U:Tab) {r i:Nat} (c:Nat) (h:i≠r):rowF N (Lp.pivot U r c) i=fun j=>rowF N U i j-U.a i c*prow N U r c j:=funext fun j=>by
 unfold prow rowF Lp.pivot
 split<;>simp[h]
theorem pivot_cost (N:Nat) (U:Tab) (r c:Nat):costF N (Lp.pivot U r c)=fun j=>costF N U j-U.c c*prow N U r c j:=funext fun j=>by
 unfold costF prow rowF Lp.pivot
 split
 ·rfl
 ·simp only;grind
section
variable {ops:Array Oper} {Q:Exit→Act→World→Prop} {S:World→Prop} {A:Act} {I L:List (Nat×Value)} {w wb W:World} {i:Nat} {r:Sc} {o:Oper} {ts:List Nat} {vs:List Value} {T:Nat→Thing}
theorem stS3 {x g:Nat} {a b c a' b' c':Value} {L':List (Nat×Value)} (hS:Sep wb w T) (ex:T x=boxT g [a,b,c])
  (kk: ∀W,Sep wb W (upd T x (boxT g [a',b',c']))→S W∧Sch Tryz.prog ops Q S A I r L' W)
  (hi:ops[i]? =some o:=by(conv=>lhs;whnf;arg 1;whnf))
  (ht:o.looksAt ops=ts:=by(conv=>lhs;reduce))
  (hv:vls I L ts=vs:=by(repeat(apply vlC;focus(conv=>lhs;whnf)));exact rfl)
  (hw:Region.wanted o (yl ops I L)=true:=by kernel_rfl)
  (hy: ∀u,Fa u ts vs→C3 w g a b c→Yn ((execOp u.eval o).run Tryz.prog w) .skip (set3 w g a' b' c'):=by intro a hF hc;(try dsimp only[Fa] at hF);dsimp only[C3] at hc;go_simp;exact Yn.mk)
  (hL:pt o.dst undef L=L':=by(conv=>lhs;whnf)):Sch Tryz.prog ops Q S A I (.c i r) L w:=by
 have h1:=hS.setbox ex a' (j:=0) (by simp)
 have h2:=h1.setbox (upd_same _ _ _) b' (j:=1) (by simp)
 have h3:=h2.setbox (upd_same _ _ _) c' (j:=2) (by simp)
 simp only[upd_upd,List.set] at h3
 have h:=kk _ h3
 exact rsO h.1 h.2 hi ht hv hw (fun u hF=>hy u hF (hS.box ex).c3) hL
end
theorem Sep.drop3{wb w:World}{a b:Thing}(h:Sep wb w (two a b)):Sep wb w (two a nothing):=(h.step 3 nothing (Off.refl _ _) trivial (fun _ h=>h.elim)).only rfl rfl
theorem Sep.join1 {wb wc w:World} {T:Nat→Thing} {a:Thing} (h:Sep wb wc T) (h2:Sep wc w (two a nothing)) (m:Nat): ∃T',Sep wb w T'∧(∀x,x<4+m→T' x=T x)∧T' (4+m)=a:=by
 refine⟨_,h.join h2 (4+m),fun x hx=>if_pos hx,?_⟩
 show(if _ then _ else _)=_
 rw[if_neg (by omega),Nat.sub_self];rfl
section
variable {wb w W:World} {T:Nat→Thing}
theorem Sep.repl {x:Nat} {v v':Value} {l l':List Raw} (h:Sep wb w T) (e:T x=listT v l) (hb:Below w.heap.size w W) (hv:Rats W 0 v' l') (ho: ∀b,v'.ownBlock=some b→v.ownBlock=some b∨(w.heap.size≤b∧b<W.heap.size)):Sep wb W (upd T x (listT v' l')):=
 h.step x _ (off_of hb) hv (fun b hb=>by rw[e];exact ho b hb)
theorem Sep.ints{x:Nat}{v:Value}{l:List Value}(h:Sep wb w T)(e:T x=intT v l):Vals 3 w 0 v l:=h.as x e
theorem Sep.setint {x g n cap j:Nat} {l:List Value} (h:Sep wb w T) (e:T x=intT (.slice (some ⟨g,0,none⟩) n cap) l) (v:Value):Sep wb (w.setCell ⟨g,j,none⟩ v) (upd T x (intT (.slice (some ⟨g,0,none⟩) n cap) (l.set j v))):=by
 have hv:=h.ints e
 refine h.step x _ ?_ (hv.set v) (fun b hb=>.inl (by rw[e];exact hb))
 rw[e]
 exact(Off.refl (intT (.slice (some ⟨g,0,none⟩) n cap) l).O w).set (p:=⟨g,j,none⟩) (show some g=some g from rfl) v
end
theorem ints_set {m j:Nat} {F:Nat→Nat} {s:Nat} (hj:j<m):((List.range m).map fun i=>Value.int .i64 (F i:Int)).set j (.int .i64 (s:Int))=(List.range m).map fun i=>Value.int .i64 ((if i=j then s else F i:Nat):Int):=by
 have h:=vals_set (F:=fun i=>Value.int .i64 (F i:Int)) (v:=.int .i64 (s:Int)) hj;rw[h]
 exact List.map_congr_left fun i _=>by
  unfold upd
  split<;>rfl
end Go.Proofs.YtinmmkcjjlconaaGreat
namespace Go.Proofs.YtinmmkcjjlconaaGreat
open Go.RowKit W
open Pl (nb bv bv_nb nb_size_zero)
open Lp (S S_succ Cert Out Unb)
theorem rpivot_any (w0 w:World) (b m N:Nat) (U:Lp.Tab) (r c:Nat) (h:RT w0 w b m N U) (hr:r<m) (hc:c<N) (hp:U.a r c≠0) (hm:m≤100) (hN:N≤900) (sR: ∀i j,i<m→j≤N→Sz (rowF N U i j) 40000) (sC: ∀j,j≤N→Sz (costF N U j) 40000):
  Calls Tryz.prog 81 #[.pointer (some ⟨b,0,none⟩),.int .i64 (r:Int),.int .i64 (c:Int)] w fun e w'=>(∃v,e= .returned v)∧RT w0 w' b m N (Lp.pivot U r c):=by
 obtain⟨ar,cr,ab,cb,ac,cc,rv_,T,hS,hp0⟩:=h;obtain⟨bx,rs,bs,co,ro⟩:=hp0
 have HQ:Hid (∀j,j<N+1→∀W,Calls Tryz.prog 22 #[rv (rowF N U r j),rv (U.a r c)] W fun e w'=>e= .returned (.tuple #[rv (prow N U r c j),.bool true])∧Below W.heap.size W w'):=Lib.hid (fun j hj W=>rquo2_any (rowF N U r j) (U.a r c) W ((sR r j hr (by omega)).mono (by decide)) (((row_lt hc:rowF N U r c=_)▸sR r c hr (by omega)).mono (by decide)) hp)
 have sP: ∀j,j<N+1→Sz (prow N U r c j) 160000:=fun j hj=>(Sz_div (sR r j hr (by omega)) ((row_lt hc:rowF N U r c=_)▸sR r c hr (by omega)) hp).mono (by decide)
 have HLr:=Lib.hid (fun i (hi:i<m) a b d e W h1 h2=>less_any (N+1) (rowF N U i) (prow N U r c) (U.a i c) a b d e W h1 h2 (by omega) (fun j hj=>(sR i j hi (by omega)).mono (by decide)) sP (((row_lt hc:rowF N U i c=_)▸sR i c hi (by omega)).mono (by decide)))
 have HLc:=Lib.hid (fun a b d e W h1 h2=>less_any (N+1) (costF N U) (prow N U r c) (U.c c) a b d e W h1 h2 (by omega) (fun j hj=>(sC j (by omega)).mono (by decide)) sP (((cost_lt hc:costF N U c=_)▸sC c (by omega)).mono (by decide)))
 obtain⟨_,_,eA,hA1⟩:=(hS.vals rs).form
 obtain⟨ga,rfl⟩: ∃g,ar=some ⟨g,0,none⟩:=by
  obtain⟨g,e1,_⟩:=hA1 (by simpa using (show 0<m by omega))
  simp only[Value.slice.injEq] at eA
  exact⟨g,eA.1.trans e1⟩
 obtain⟨_,_,eB,hB1⟩:=(hS.ints bs).form
 obtain⟨gb,rfl⟩: ∃g,ab=some ⟨g,0,none⟩:=by
  obtain⟨g,e1,_⟩:=hB1 (by simpa using (show 0<m by omega))
  simp only[Value.slice.injEq] at eB
  exact⟨g,eB.1.trans e1⟩
 clear eA hA1 eB hB1
 obtain⟨gc,rfl,_⟩:=(hS.lst co).slr.get (show 0<N+1 by omega)
 have rr:=ro r hr;obtain⟨aR,cR,eR⟩:=(hS.lst rr).form;rw[raws_len] at eR;rw[eR] at rr
 obtain⟨gR,rfl,_⟩:=(hS.lst rr).slr.get (show 0<N+1 by omega)
 have HE2:=Lib.hid (fun W (hb:Below w.heap.size w W)=>(hS.below hb).e3 rr (show c<N+1 by omega))
 rw[row_lt hc] at HE2;have hkr:=fun(W:World) (T:Nat→Thing) (hS:Sep w0 W T) (rs:T 1=valsT (.slice (some ⟨ga,0,none⟩) m cr) ((List.range m).map rv_))=>hS.rowat rs (vals_at hr);rw[eR] at hkr;have HKR:=Lib.hid hkr;have HRV:=Lib.hid eR
 have hc0:(0:Int)≤(c:Int):=by omega
 have HCN:=Lib.hid hc;generalize hM:N+1=M at*
 have hc1:(c:Int)<(M:Int):=by have:=HCN.out;omega
 have hr0:(0:Int)≤(r:Int):=by omega
 have hr1:(r:Int)<(m:Int):=by omega
 have HMN:=Lib.hid hM
 have hM9:M≤901:=by omega
 have hM0:0<M:=by omega
 have hcM:c<M:=by have:=HCN.out;omega
 simp only[rv] at HQ HLr HLc
 clear hM hc hp sR sC sP hkr eR hN;generalize U.a r c=p' at*
 go_enter Tryz.func81,Tryz.ntmps81
 have ag:=(Below.refl w.heap.size w)
 go_upto_region 1 with fail
 go_wp2_with fail
 go_loopw [6,7] (fun s6 s7 wr=> ∃j:Nat,j≤M∧s7= .int .i64 (j:Int)∧Sep w wr (two (listT s6 (raws j (prow N U r c))) nothing)) (fun _ s7 _=>M-(intOf s7).toNat)
 case atStart=>exact⟨0,by omega,rfl,Sep.one0 w⟩
 case round=>
  obtain⟨j,hj,rfl,hS2⟩:=hrel;have hS3:=hS.below hS2.acc;have k0:=(hS3.box bx).at 0 rfl;have k1:=HKR.out _ _ hS3 rs
  have hw1:IntKind.i64.wrap ((j:Int)+1)=(j:Int)+1:=by rw[IntKind.wrap_i64];omega
  by_cases hlt:j<M
  ·have hj0:(0:Int)≤(j:Int):=by omega
   have hj1:(j:Int)<(M:Int):=by omega
   have HQj:=Lib.hid (HQ.out j hlt);have HX:=Lib.hid (raws_succ j (prow N U r c));generalize hz:prow N U r c j=z' at*;have HE1:=Lib.hid (fun W (hb:Below w.heap.size w W)=>(hS.below hb).e3 rr hlt);generalize rowF N U r j=x' at*;clear hz hS3
   go_upto_region 4 with fail
   clear k0 k1;replace hS2:=hS2.drew
   refine wp_schH (S:=fun w'=>w'.cell? ⟨b,0,none⟩=some (.slice (some ⟨ga,0,none⟩) m cr)∧w'.cell? ⟨ga,r,none⟩=some (.slice (some ⟨gR,0,none⟩) M cR)∧w'.cell? ⟨gR,j*3,none⟩=some (.bool (decide (x'.num<0)))∧w'.cell? ⟨gR,j*3+1,none⟩=some (.string (nb x'.num.natAbs))∧w'.cell? ⟨gR,j*3+1+1,none⟩=some (.string (nb x'.den))∧w'.cell? ⟨gR,c*3,none⟩=some (.bool (decide (p'.num<0)))∧w'.cell? ⟨gR,c*3+1,none⟩=some (.string (nb p'.num.natAbs))∧w'.cell? ⟨gR,c*3+1+1,none⟩=some (.string (nb p'.den))) (hc:=by as_aux_lemma=>kernel_rfl) (.p 0 (.p 1 (.p 2 (.p 3 (.p 4 (.p 5 (.p 6 (.p 7 (.p 8 (.p 9 (.p 10 (.p 11 (.p 12 (.p 13 (.p 14 (.p 15 (.p 16 (.p 17 (.p 18 (.p 19 (.b (.c 20 (.p 21 (.p 22 (.p 23 (.c 24 (.c 25 (.p 26 .e))))))) (.c 24 (.c 20 (.p 21 (.p 22 (.p 23 (.c 25 (.p 26 .e)))))))))))))))))))))))))))) [0,1,7,2] fun zA WD hA aq=>?_
   simp only[←aq.out] at hS2
   clear aq
   refine⟨⟨((hS.below hS2.acc).box bx).at 0 rfl,HKR.out _ _ (hS.below hS2.acc) rs,(HE1.out _ hS2.acc).1.1,(HE1.out _ hS2.acc).1.2.1,(HE1.out _ hS2.acc).1.2.2,(HE2.out _ hS2.acc).1.1,(HE2.out _ hS2.acc).1.2.1,(HE2.out _ hS2.acc).1.2.2⟩,fun hS0=>?_⟩
   repeat' first
    |((with_reducible refine isP ?_);refine tkO ?_)
    |(with_reducible refine brO ?_ ?_)
    |(
     with_reducible refine isC (i:=20) ?_
     refine caO (i:=20) (HQj.out _) fun e wn hz=>?_
     obtain⟨rfl,hb⟩:=hz;replace hS2:=hS2.below hb;clear hb
     refine⟨_,rfl,⟨((hS.below hS2.acc).box bx).at 0 rfl,HKR.out _ _ (hS.below hS2.acc) rs,(HE1.out _ hS2.acc).1.1,(HE1.out _ hS2.acc).1.2.1,(HE1.out _ hS2.acc).1.2.2,(HE2.out _ hS2.acc).1.1,(HE2.out _ hS2.acc).1.2.1,(HE2.out _ hS2.acc).1.2.2⟩,?_⟩)
    |(
     with_reducible refine isC (i:=24) ?_
     refine alS (i:=24) (x:=1) (zs:= [.bool false,.string ⟨#[]⟩,.string ⟨#[]⟩]) hS2 rfl fun _ _ hz=>?_
     replace hS2:=hz;clear hz
     refine⟨⟨((hS.below hS2.acc).box bx).at 0 rfl,HKR.out _ _ (hS.below hS2.acc) rs,(HE1.out _ hS2.acc).1.1,(HE1.out _ hS2.acc).1.2.1,(HE1.out _ hS2.acc).1.2.2,(HE2.out _ hS2.acc).1.1,(HE2.out _ hS2.acc).1.2.1,(HE2.out _ hS2.acc).1.2.2⟩,?_⟩)
    |(
     with_reducible refine isC (i:=25) ?_
     refine stS3 (i:=25) (x:=1) hS2 rfl fun wz hz=>?_
     replace hS2:=hz;clear hz
     refine⟨⟨((hS.below hS2.acc).box bx).at 0 rfl,HKR.out _ _ (hS.below hS2.acc) rs,(HE1.out _ hS2.acc).1.1,(HE1.out _ hS2.acc).1.2.1,(HE1.out _ hS2.acc).1.2.2,(HE2.out _ hS2.acc).1.1,(HE2.out _ hS2.acc).1.2.1,(HE2.out _ hS2.acc).1.2.2⟩,?_⟩)
   all_goals(
    refine enP hA ?_
    clear hA HQj HE1;have kx:=hS2.box (i:=1) rfl;have k0:=kx.at 0 rfl;have k1:=kx.at 1 rfl;have k2:=kx.at 2 rfl
    have hL:=Rats.lit (B:=0) wz (Nat.zero_le _) [⟨decide (z'.num<0),nb z'.num.natAbs,nb z'.den⟩] (by simp)
    have hSa:=hS2.alloc (.cells #[.bool (decide (z'.num<0)),.string (nb z'.num.natAbs),.string (nb z'.den)] 33)
    have hln:(raws j (prow N U r c)).length+ [(⟨decide (z'.num<0),nb z'.num.natAbs,nb z'.den⟩:Raw)].length<1000000000:=by rw[raws_len];simp;omega
    clear kx
    go_wp2_with (at_builtin;refine app_rats (by rfl) (by rfl) (by rfl) (by rfl) 0 (hSa.lst (i:=0) rfl) hL hln (Nat.zero_le _) ?_;intro v2 w2_ e1 e2 e3)
    have hSb:=hSa.app (x:=0) rfl e2 e1 e3;rw[←HX.out] at hSb;clear hS2 hSa hL hln e1 e2 e3 HX k0 k1 k2;replace hSb:=hSb.only (a:=listT v2 (raws (j+1) (prow N U r c))) (b:=nothing) rfl rfl
    go_roundw
    case rel=>exact⟨j+1,by omega,by go_num,hSb⟩
    case measure=>simp[intOf];omega)
  ·obtain rfl:M=j:=by omega
   have hi1: ¬(M:Int)<(M:Int):=by omega
   have hR:=(hS2.lst (i:=0) rfl);obtain⟨aP,cP,eP⟩:=hR.form;rw[raws_len] at eP;subst eP
   obtain⟨gP,rfl,_⟩:=hR.slr.get (show 0<M by omega)
   clear hR;have HBw:=Lib.hid hS2.acc;obtain⟨T1,hS,hk,tP⟩:=hS.join1 hS2 m;clear hS2 hS3 k1
   replace bx:=(hk 0 (by omega)).trans bx
   replace rs:=(hk 1 (by omega)).trans rs
   replace bs:=(hk 2 (by omega)).trans bs
   replace co:=(hk 3 (by omega)).trans co
   replace ro:=fun i (hi:i<m)=>(hk (4+i) (by omega)).trans (ro i hi)
   clear hk rr;have k1:=HKR.out _ _ hS rs;have hv:=hS.vals rs;have f1:=(hv.rowC rfl).3 r;clear hv
   have hr0:(0:Int)≤(r:Int):=by omega
   have hr1:(r:Int)<(m:Int):=by omega
   go_wp2_with fail
   clear k0 k1 f1;have hS2:=hS.setrow rs (j:=r) (.slice (some ⟨gP,0,none⟩) M cP);rw[vals_set hr] at hS2;have hS3:=hS2.perm (Lp.swp (4+r) (4+m)) (Lp.swp_swp _ _);generalize wr.setCell ⟨ga,r,none⟩ (.slice (some ⟨gP,0,none⟩) M cP)=W1 at*;clear hS hS2;obtain⟨T2,hT2⟩: ∃T2,T2=fun i=>upd T1 1 (valsT (.slice (some ⟨ga,0,none⟩) m cr) ((List.range m).map (upd rv_ r (.slice (some ⟨gP,0,none⟩) M cP)))) (Lp.swp (4+r) (4+m) i):=⟨_,rfl⟩
   rw[←hT2] at hS3
   have hk: ∀x,x<4+m→x≠1→x≠4+r→T2 x=T1 x:=fun x h1 h2 h3=>by
    rw[hT2]
    show upd T1 1 _ (Lp.swp (4+r) (4+m) x)=_
    rw[show Lp.swp (4+r) (4+m) x=x from by unfold Lp.swp;rw[if_neg h3,if_neg (by omega)],upd_ne h2]
   have t1:T2 1=valsT (.slice (some ⟨ga,0,none⟩) m cr) ((List.range m).map (upd rv_ r (.slice (some ⟨gP,0,none⟩) M cP))):=by
    rw[hT2]
    show upd T1 1 _ (Lp.swp (4+r) (4+m) 1)=_
    rw[show Lp.swp (4+r) (4+m) 1=1 from by unfold Lp.swp;rw[if_neg (by omega),if_neg (by omega)],upd_same]
   have tr:T2 (4+r)=listT (.slice (some ⟨gP,0,none⟩) M cP) (raws M (prow N U r c)):=by
    rw[hT2]
    show upd T1 1 _ (Lp.swp (4+r) (4+m) (4+r))=_
    rw[show Lp.swp (4+r) (4+m) (4+r)=4+m from if_pos rfl,upd_ne (by omega)]
    exact tP
   replace bx:=(hk 0 (by omega) (by omega) (by omega)).trans bx
   replace bs:=(hk 2 (by omega) (by omega) (by omega)).trans bs
   replace co:=(hk 3 (by omega) (by omega) (by omega)).trans co
   have ro2: ∀i,i<m→i≠r→T2 (4+i)=listT (rv_ i) (raws M (rowF N U i)):=fun i hi hne=>(hk (4+i) (by omega) (by omega) (by omega)).trans (ro i hi)
   clear hT2 hk tP ro rs T1
   have hv: ∀i,i<m→∃a c,rv_ i= .slice a M c:=fun i hi=>by
    by_cases e:i=r
    ·subst e;exact⟨_,_,HRV.out⟩
    ·obtain⟨a,c,e⟩:=(hS3.lst (ro2 i hi e)).form
     rw[raws_len] at e
     exact⟨a,c,e⟩
   have HV:=Lib.hid hv;clear hv;have HRO:=Lib.hid ro2;have HTR:=Lib.hid tr;clear ro2 tr
   go_wp2_with fail
   go_loopw [10] (fun s10 wr=> ∃i:Nat,i≤m∧s10= .int .i64 (i:Int)∧∃T' rv',Sep w0 wr T'∧(∀x,x<4→x≠1→T' x=T2 x)∧T' 1=valsT (.slice (some ⟨ga,0,none⟩) m cr) ((List.range m).map rv')∧rv' r= .slice (some ⟨gP,0,none⟩) M cP∧T' (4+r)=T2 (4+r)∧(∀q,q<m→q≠r→q<i→T' (4+q)=listT (rv' q) (raws M (fun j=>rowF N U q j-U.a q c*prow N U r c j)))∧(∀q,q<m→q≠r→i≤q→T' (4+q)=T2 (4+q)∧rv' q=rv_ q)) (fun s10 _=>m-(intOf s10).toNat)
   case atStart=>exact⟨0,by omega,rfl,T2,_,hS3,fun _ _ _=>rfl,t1,upd_same _ _ _,rfl,fun q _ _ hq=>by omega,fun q _ hq _=>⟨rfl,upd_ne hq⟩⟩
   case round=>
    clear hS3 t1;obtain⟨i,hi,rfl,T',rv',hS,hk,rs,hrv,tr0,ra,rb⟩:=hrel
    have bx':=(hk 0 (by decide) (by decide)).trans bx
    have k0:=(hS.box bx').at 0 rfl
    have hw1:IntKind.i64.wrap ((i:Int)+1)=(i:Int)+1:=by rw[IntKind.wrap_i64];omega
    by_cases hlt:i<m
    ·have hi0:(0:Int)≤(i:Int):=by omega
     have hi1:(i:Int)<(m:Int):=by omega
     by_cases hir:i=r
     ·have hie:(i:Int)=(r:Int):=by omega
      have HIR:=Lib.hid hir;clear hir
      have hse:((i:Int)==(r:Int))=true:=by rw[hie];simp
      have HIE:=Lib.hid hie;clear hie
      go_wp2_with fail
      go_roundw
      case rel=>exact⟨i+1,by omega,by go_num,T',rv',hS,hk,rs,hrv,tr0,fun q h1 h2 h3=>ra q h1 h2 (by have:=HIR.out;omega),fun q h1 h2 h3=>rb q h1 h2 (by omega)⟩
      case measure=>simp[intOf];omega
     ·have hie: ¬(i:Int)=(r:Int):=by omega
      obtain⟨te0,ev⟩:=rb i hlt hir (Nat.le_refl _);have te:=te0.trans (HRO.out i hlt hir);obtain⟨aQ,cQ,eQ⟩:=HV.out i hlt;rw[eQ] at te;obtain⟨gQ,rfl,_⟩:=(hS.lst te).slr.get hM0;have tr:=tr0.trans HTR.out;have HEV:=Lib.hid (ev.trans eQ);have HRC:=Lib.hid (row_lt HCN.out:rowF N U i c=U.a i c);have HIR:=Lib.hid hir;clear te0 ev eQ hir
      go_upto_region 11 with fail
      clear k0;replace hS:=hS.drew
      refine wp_schH (S:=fun w'=>w'.cell? ⟨b,0,none⟩=some (.slice (some ⟨ga,0,none⟩) m cr)) (hc:=by as_aux_lemma=>kernel_rfl) (.p 0 (.p 1 (.p 2 (.p 3 (.p 4 (.p 5 (.p 6 (.p 7 (.p 8 (.p 9 (.p 10 (.p 12 (.p 13 (.p 14 (.p 15 (.p 16 (.p 17 (.p 19 (.p 22 (.b (.c 11 (.c 18 (.p 20 (.c 21 (.c 23 (.p 24 (.c 25 .e))))))) (.c 18 (.p 20 (.b (.c 11 (.c 21 (.c 23 (.p 24 (.c 25 .e))))) (.c 21 (.c 11 (.c 23 (.p 24 (.c 25 .e)))))))))))))))))))))))))))) [0,10,2,6] fun zA WD hA aq=>?_
      simp only[←aq.out] at hS
      clear aq
      refine⟨(hS.box bx').at 0 rfl,fun hS0=>?_⟩
      repeat' first
       |((with_reducible refine isP ?_);refine tkO ?_)
       |(with_reducible refine brO ?_ ?_)
       |(
        with_reducible refine isC (i:=11) ?_
        have kk:=hS.rowat rs (vals_at hlt);rw[HEV.out] at kk
        refine ldC (i:=11) kk ((hS.box bx').at 0 rfl) ?_
        clear kk)
       |(
        with_reducible refine isC (i:=18) ?_
        have kk:=hS.rowat rs (vals_at hlt);rw[HEV.out] at kk
        refine ldC (i:=18) kk ((hS.box bx').at 0 rfl) ?_
        clear kk)
       |(
        with_reducible refine isC (i:=21) ?_
        refine ldR (i:=21) (U.a i c) ((hS.e3 te hcM).to HRC.out) ?_ (hS:=(hS.box bx').at 0 rfl))
       |(
        with_reducible refine isC (i:=23) ?_
        refine caO (i:=23) (HLr.out i hlt _ _ _ _ _ (hS.lst te) (hS.lst tr).slr) fun e wn hz=>?_
        obtain⟨an,cn,rfl,hR,hO,hb⟩:=hz.ex;replace hS:=hS.repl te hb hR hO;clear hz hR hO hb
        refine⟨_,rfl,(hS.box (upd_o (by omega) bx')).at 0 rfl,?_⟩)
       |(
        with_reducible refine isC (i:=25) ?_
        refine stV (i:=25) (x:=1) (j:=i) hS (upd_o (by omega) rs) (vals_at hlt) fun ws hz=>?_
        replace hS:=hz;clear hz
        refine⟨(hS.box (upd_o (by omega) (upd_o (by omega) bx'))).at 0 rfl,?_⟩)
      all_goals(
       refine enP hA ?_
       clear hA;rw[vals_set hlt] at hS
       obtain⟨T4,hS,hk4,h4,h5⟩:=hS.gen2 (by omega)
       go_wp2_with fail
       go_roundw
       case rel=>
        have hir:=HIR.out
        refine⟨i+1,by omega,by go_num,T4,_,hS,fun x h1 h2=>(hk4 x (by omega) h2).trans (hk x h1 h2),h5,(upd_ne (Ne.symm hir)).trans hrv,(hk4 _ (by omega) (by omega)).trans tr0,fun q h1 h2 h3=>?_,fun q h1 h2 h3=>?_⟩
        ·by_cases e:q=i
         ·subst e
          rw[upd_same]
          exact h4
         ·rw[upd_ne e]
          exact(hk4 _ (by omega) (by omega)).trans (ra q h1 h2 (by omega))
        ·rw[upd_ne (by omega)]
         exact⟨(hk4 _ (by omega) (by omega)).trans (rb q h1 h2 (by omega)).1,(rb q h1 h2 (by omega)).2⟩
       case measure=>simp[intOf];omega)
    ·obtain rfl:m=i:=by omega
     have hi1: ¬(m:Int)<(m:Int):=by omega
     replace bx:=bx'
     replace bs:=(hk 2 (by decide) (by decide)).trans bs
     replace co:=(hk 3 (by decide) (by decide)).trans co
     have tr:=tr0.trans HTR.out;have HRA:=Lib.hid ra;have HCC:=Lib.hid (cost_lt HCN.out:costF N U c=U.c c);clear hk tr0 ra rb HRO HTR HV HLr HKR HRV HE2 HQ
     go_upto_region 12 with fail
     clear k0;replace hS:=hS.drew
     refine wp_schH (S:=fun _=>True) (hc:=by as_aux_lemma=>kernel_rfl) (.p 0 (.p 1 (.p 2 (.p 3 (.p 5 (.p 6 (.p 7 (.p 9 (.p 12 (.b (.c 4 (.c 8 (.p 10 (.c 11 (.c 13 (.p 14 (.p 15 (.c 16 .e)))))))) (.c 8 (.p 10 (.b (.c 4 (.c 11 (.c 13 (.p 14 (.p 15 (.c 16 .e)))))) (.c 11 (.c 4 (.c 13 (.p 14 (.p 15 (.c 16 .e))))))))))))))))))) [0,2,6] fun zA WD hA aq=>?_
     simp only[←aq.out] at hS
     clear aq
     refine⟨trivial,fun hS0=>?_⟩
     repeat' first
      |((with_reducible refine isP ?_);refine tkO ?_)
      |(with_reducible refine brO ?_ ?_)
      |(
       with_reducible refine isC (i:=4) ?_
       refine ldC (i:=4) ((hS.box bx).at 2 rfl) trivial ?_)
      |(
       with_reducible refine isC (i:=8) ?_
       refine ldC (i:=8) ((hS.box bx).at 2 rfl) trivial ?_)
      |(
       with_reducible refine isC (i:=11) ?_
       refine ldR (i:=11) (U.c c) ((hS.e3 co hcM).to HCC.out) ?_ (hS:=trivial))
      |(
       with_reducible refine isC (i:=13) ?_
       refine caO (i:=13) (HLc.out _ _ _ _ _ (hS.lst co) (hS.lst tr).slr) fun e wn hz=>?_
       obtain⟨an,cn,rfl,hR,hO,hb⟩:=hz.ex;replace hS:=hS.repl co hb hR hO;clear hz hR hO hb
       refine⟨_,rfl,trivial,?_⟩)
      |(
       with_reducible refine isC (i:=16) ?_
       refine stB (i:=16) (x:=0) (j:=2) hS (upd_o (by decide) bx) rfl fun ws hz=>?_
       replace hS:=hz;clear hz
       refine⟨trivial,?_⟩)
     all_goals(
      refine enP hA ?_
      clear hA
      simp only[List.set] at hS
      obtain⟨T5,hS,hk5,h6,h7⟩:=hS.gen2 (by decide)
      have bs5:=(hk5 2 (by decide) (by decide)).trans bs
      have kb:=(hS.box h7).at 1 rfl;have hv:=hS.ints bs5
      have k1:ws.cell? ⟨gb,r,none⟩=some (.int .i64 (U.bas r:Int)):=by
       rw[(hv.rowC rfl).2 r (by simpa using hr)]
       simp[List.getD_eq_getElem?_getD,hr]
      have f1:=(hv.rowC rfl).3 r;clear hv
      go_wp2_with fail
      clear kb k1 f1;have hS6:=hS.setint bs5 (j:=r) (.int .i64 (c:Int));rw[ints_set hr] at hS6;obtain⟨T6,hS6,hk6,h8⟩:=hS6.gen1
      go_end0
      refine⟨⟨_,rfl⟩,?_⟩
      have hM:=HMN.out;subst hM
      refine⟨_,_,_,_,_,_,rv',T6,hS6,(hk6 0 (by decide)).trans h7,((hk6 1 (by decide)).trans (hk5 1 (by decide) (by decide))).trans rs,h8,?_,fun q hq=>?_⟩
      ·rw[pivot_cost]
       exact(hk6 3 (by decide)).trans h6
      ·refine((hk6 (4+q) (by omega)).trans (hk5 (4+q) (by omega) (by omega))).trans ?_
       by_cases e:q=r
       ·subst e
        rw[pivot_row,hrv]
        exact tr
       ·rw[pivot_oth N U c e]
        exact HRA.out q hq e hq)
structure LeavR (m:Nat) (U:Lp.Tab) (c:Nat) (w:World) (e:Ending) (w':World):Prop where
  ex: ∃z:Int,e= .returned (.int .i64 z)∧Below w.heap.size w w'∧((z= -1∧Lp.NoBest U c m)∨∃r:Nat,z=(r:Int)∧Lp.Best id U c m r)
theorem sgn_cmp {p q:Rat}:(Rq.sgn (p-q)<0↔p<q)∧(Rq.sgn (p-q)=0↔p=q):=by
 constructor
 ·constructor
  ·intro h
   have: ¬q≤p:=fun h2=>by have:=sgn_ge0.2 h2;omega
   exact Rat.not_le.1 this
  ·intro h
   have: ¬0≤Rq.sgn (p-q):=fun h2=>by have:=sgn_ge0.1 h2;exact absurd h (Rat.not_lt.2 this)
   omega
 ·rw[Rq.sgn_zero]
  constructor
  ·intro h;grind
  ·intro h;subst h;exact Rat.sub_self
theorem sgn_pos' {p:Rat}:Rq.sgn p≤0↔p≤0:=by
 have:=sgn_le0 (p:=p) (q:=0)
 rwa [show p-0=p by grind] at this
theorem rleaving_any (w0 w:World) (b m N:Nat) (U:Lp.Tab) (c:Nat) (h:RT w0 w b m N U) (hc:c<N) (hm:m≤100) (hN:N≤900) (sR: ∀i j,i<m→j≤N→Sz (rowF N U i j) 40000) (hbs: ∀i,i<m→U.bas i≤100000):
  Calls Tryz.prog 82 #[.pointer (some ⟨b,0,none⟩),.int .i64 (c:Int)] w fun e w'=>LeavR m U c w e w':=by
 obtain⟨ar,cr,ab,cb,ac,cc,rv_,T,hS,hp0⟩:=h;obtain⟨bx,rs,bs,co,ro⟩:=hp0
 have HSg:=Lib.hid (fun i (hi:i<m) W=>rsign2_any (U.a i c) W (((row_lt hc:rowF N U i c=_)▸sR i c hi (by omega)).mono (by decide)))
 have HQ:=Lib.hid (fun i (hi:i<m) (hp:U.a i c≠0) W=>rquo2_any (U.b i) (U.a i c) W (((row_end:rowF N U i N=_)▸sR i N hi (by omega)).mono (by decide)) (((row_lt hc:rowF N U i c=_)▸sR i c hi (by omega)).mono (by decide)) hp)
 have HSq:=Lib.hid (fun i (hi:i<m) (hp:U.a i c≠0)=>((Sz_div ((row_end:rowF N U i N=_)▸sR i N hi (by omega)) ((row_lt hc:rowF N U i c=_)▸sR i c hi (by omega)) hp):Sz (U.b i/U.a i c) (40000+40000)))
 obtain⟨q0,hq0⟩: ∃q:Rat,q=0:=⟨_,rfl⟩
 have HZ:Hid (∀W,Calls Tryz.prog 48 #[] W fun e w'=>e= .returned (rv q0)∧Below W.heap.size W w'):=Lib.hid (fun W=>by rw[hq0];exact rzero_any W)
 have sq0:Sz q0 80000:=by rw[hq0];exact Sz_zero.mono (by decide)
 clear hq0;have HCm:=Lib.hid (fun p q W h1 h2=>rcmp2_any p q W h1 h2);have HT:=Lib.hid (fun W (hb:Below w.heap.size w W)=>hS.below hb);have HC1:=Lib.hid (fun i=>(row_lt hc:rowF N U i c=U.a i c));have HC2:=Lib.hid (fun i=>(row_end:rowF N U i N=U.b i))
 have HRV:=Lib.hid (fun i (hi:i<m)=>(show∃g cq,rv_ i= .slice (some ⟨g,0,none⟩) (N+1) cq from by
  obtain⟨a,cq,e⟩:=(hS.lst (ro i hi)).form;rw[raws_len] at e;have h2:=(hS.lst (ro i hi)).slr;rw[e] at h2
  obtain⟨g,rfl,_⟩:=h2.get (show 0<N+1 by omega)
  exact⟨g,cq,e⟩))
 have HAB:=Lib.hid (fun(h0:0<m)=>(show∃ga gb,ar=some ⟨ga,0,none⟩∧ab=some ⟨gb,0,none⟩ from by
  obtain⟨_,_,eA,hA1⟩:=(hS.vals rs).form;obtain⟨_,_,eB,hB1⟩:=(hS.ints bs).form
  obtain⟨ga,e1,_⟩:=hA1 (by simpa using h0)
  obtain⟨gb,e2,_⟩:=hB1 (by simpa using h0)
  simp only[Value.slice.injEq] at eA eB
  exact⟨ga,gb,eA.1.trans e1,eB.1.trans e2⟩))
 have hcN:c<N+1:=by omega
 have hNN:N<N+1:=by omega
 have hc0:(0:Int)≤(c:Int):=by omega
 generalize hM:N+1=M at*
 have hMN:(M:Int)-1=(N:Int):=by omega
 have hwN:IntKind.i64.wrap (N:Int)=(N:Int):=by rw[IntKind.wrap_i64];omega
 have hn0:(0:Int)≤(N:Int):=by omega
 have hn1:(N:Int)<(M:Int):=by omega
 have hc1:(c:Int)<(M:Int):=by omega
 have HB:=Lib.hid hbs
 simp only[rv] at HSg HQ HZ HCm
 clear sR hS hbs hM
 go_enter Tryz.func82,Tryz.ntmps82
 have ag:=(Below.refl w.heap.size w)
 go_upto_region 1 with fail
 go_upto_region 2 with fail
 have ag:=Below.refl w.heap.size w
 go_wp2_with fail
 with_reducible refine(HZ.out _).mono ?_
 rintro e wX ⟨rfl,am⟩;replace ag:=ag.tr am;clear am;have hS2:=(Sep.start ag).newbox (x:=0) rfl [.bool (decide (q0.num<0)),.string (nb q0.num.natAbs),.string (nb q0.den)] 33
 go_upto_region 3 with fail
 generalize wX.heap.size=gl at*;generalize wX.alloc (.cells #[.bool (decide (q0.num<0)),.string (nb q0.num.natAbs),.string (nb q0.den)] 33)=wY at*;replace hS2:=hS2.only (a:=boxT gl [.bool (decide (q0.num<0)),.string (nb q0.num.natAbs),.string (nb q0.den)]) (b:=nothing) rfl rfl;clear ag HZ
 go_wp2_with fail
 go_loopw [5,7] (fun s5 s7 wr=> ∃i:Nat,i≤m∧s7= .int .i64 (i:Int)∧∃(z:Int) (q:Rat),s5= .int .i64 z∧Sep w wr (two (boxT gl [.bool (decide (q.num<0)),.string (nb q.num.natAbs),.string (nb q.den)]) nothing)∧Sz q 80000∧((z= -1∧Lp.NoBest U c i)∨∃r:Nat,z=(r:Int)∧Lp.Best id U c i r∧q=U.b r/U.a r c)) (fun _ s7 _=>m-(intOf s7).toNat)
 case atStart=>exact⟨0,by omega,rfl, -1,q0,rfl,hS2,sq0,.inl ⟨rfl,fun i hi=>by omega⟩⟩
 case round=>
  clear hS2 sq0;obtain⟨i,hi,rfl,z,q,rfl,hS2,sq,hz⟩:=hrel;have hS:=HT.out _ hS2.acc;have k0:=(hS.box bx).at 0 rfl
  have hw1:IntKind.i64.wrap ((i:Int)+1)=(i:Int)+1:=by rw[IntKind.wrap_i64];omega
  by_cases hlt:i<m
  ·have hi0:(0:Int)≤(i:Int):=by omega
   have hi1:(i:Int)<(m:Int):=by omega
   obtain⟨ga,gb,rfl,rfl⟩:=HAB.out (by omega)
   obtain⟨gQ,cQ,eQ⟩:=HRV.out i hlt;have k1:=hS.rowat rs (vals_at hlt);have te:=ro i hlt;rw[eQ] at k1 te;have HQS:=Lib.hid (fun W (hb:Below w.heap.size w W)=>(show _ from(HT.out W hb).rowat rs (vals_at hlt)));rw[eQ] at HQS;obtain⟨⟨e0,e1,e2⟩,_⟩:=(hS.e3 te hcN).to (HC1.out i)
   dsimp only[q3] at e0 e1 e2
   have HZz:=Lib.hid hz;clear hz eQ;have ag:=Below.refl wr.heap.size wr;clear hS
   go_wp2_with fail
   clear k0 k1 e0 e1 e2
   with_reducible refine(HSg.out i hlt _).mono ?_
   rintro e wX ⟨rfl,am⟩;replace ag:=ag.tr am;replace hS2:=hS2.below am;clear am
   by_cases hp:U.a i c≤0
   ·have hs:=sgn_pos'.2 hp
    have hz2:(z= -1∧Lp.NoBest U c (i+1))∨∃r:Nat,z=(r:Int)∧Lp.Best id U c (i+1) r∧q=U.b r/U.a r c:=by
     rcases HZz.out with⟨h1,h2⟩|⟨r,h1,h2,h3⟩
     ·exact .inl ⟨h1,h2.skip hp⟩
     ·exact .inr ⟨r,h1,h2.skip hp,h3⟩
    have HZ2:=Lib.hid hz2;clear hp hz2 HZz
    go_wp2_with fail
    go_roundw
    case rel=>exact⟨i+1,by omega,by go_num,z,q,rfl,hS2,sq,HZ2.out⟩
    case measure=>simp[intOf];omega
   ·have hs: ¬Rq.sgn (U.a i c)≤0:=fun h=>hp (sgn_pos'.1 h)
    have hp:=Rat.not_le.1 hp;have hne:U.a i c≠0:=Rat.ne_of_gt hp;have HP:=Lib.hid hp;have HQj:=Lib.hid (HQ.out i hlt hne);have sx:=HSq.out i hlt hne;clear hp hne ag;generalize hx:U.b i/U.a i c=x' at*;have HX:=Lib.hid hx;have HE1:=Lib.hid (fun W (hb:Below w.heap.size w W)=>((HT.out W hb).e3 te hcN).to (HC1.out i));have HE2:=Lib.hid (fun W (hb:Below w.heap.size w W)=>((HT.out W hb).e3 te hNN).to (HC2.out i))
    clear hx
    go_upto_region 7 with fail
    go_cut [8,9] from 33 to 61 (fun s8 _ wx=> ∃gx,s8= .pointer (some ⟨gx,0,none⟩)∧Sep w wx (two (boxT gl [.bool (decide (q.num<0)),.string (nb q.num.natAbs),.string (nb q.den)]) (boxT gx [.bool (decide (x'.num<0)),.string (nb x'.num.natAbs),.string (nb x'.den)])))
    case first=>
     replace hS2:=hS2.drew
     refine wp_schH (S:=fun w'=>w'.cell? ⟨b,0,none⟩=some (.slice (some ⟨ga,0,none⟩) m cr)∧w'.cell? ⟨b,2,none⟩=some (.slice ac M cc)∧w'.cell? ⟨ga,i,none⟩=some (.slice (some ⟨gQ,0,none⟩) M cQ)∧w'.cell? ⟨gQ,c*3,none⟩=some (.bool (decide ((U.a i c).num<0)))∧w'.cell? ⟨gQ,c*3+1,none⟩=some (.string (nb (U.a i c).num.natAbs))∧w'.cell? ⟨gQ,c*3+1+1,none⟩=some (.string (nb (U.a i c).den))∧w'.cell? ⟨gQ,N*3,none⟩=some (.bool (decide ((U.b i).num<0)))∧w'.cell? ⟨gQ,N*3+1,none⟩=some (.string (nb (U.b i).num.natAbs))∧w'.cell? ⟨gQ,N*3+1+1,none⟩=some (.string (nb (U.b i).den))) (hc:=by as_aux_lemma=>kernel_rfl) (.p 0 (.p 1 (.p 2 (.p 3 (.p 4 (.p 5 (.p 6 (.p 7 (.p 8 (.p 9 (.p 10 (.p 11 (.p 12 (.p 13 (.p 14 (.p 15 (.p 16 (.p 17 (.p 18 (.p 19 (.p 20 (.p 21 (.p 22 (.p 23 (.p 24 (.b (.c 25 (.p 26 (.p 27 (.p 28 (.c 29 (.c 30 (.p 31 .e))))))) (.c 29 (.c 25 (.p 26 (.p 27 (.p 28 (.c 30 (.p 31 .e))))))))))))))))))))))))))))))))) [0,7,1] fun zA WD hA aq=>?_
     simp only[←aq.out] at hS2
     clear aq
     refine⟨⟨((HT.out _ hS2.acc).box bx).at 0 rfl,((HT.out _ hS2.acc).box bx).at 2 rfl,HQS.out _ hS2.acc,(HE1.out _ hS2.acc).1.1,(HE1.out _ hS2.acc).1.2.1,(HE1.out _ hS2.acc).1.2.2,(HE2.out _ hS2.acc).1.1,(HE2.out _ hS2.acc).1.2.1,(HE2.out _ hS2.acc).1.2.2⟩,fun hS0=>?_⟩
     repeat' first
      |((with_reducible refine isP ?_);refine tkO ?_)
      |(with_reducible refine brO ?_ ?_)
      |(
       with_reducible refine isC (i:=25) ?_
       refine caO (i:=25) (HQj.out _) fun e wn hz=>?_
       obtain⟨rfl,hb⟩:=hz;replace hS2:=hS2.below hb;clear hb
       refine⟨_,rfl,⟨((HT.out _ hS2.acc).box bx).at 0 rfl,((HT.out _ hS2.acc).box bx).at 2 rfl,HQS.out _ hS2.acc,(HE1.out _ hS2.acc).1.1,(HE1.out _ hS2.acc).1.2.1,(HE1.out _ hS2.acc).1.2.2,(HE2.out _ hS2.acc).1.1,(HE2.out _ hS2.acc).1.2.1,(HE2.out _ hS2.acc).1.2.2⟩,?_⟩)
      |(
       with_reducible refine isC (i:=29) ?_
       refine alS (i:=29) (x:=3) (zs:= [.bool false,.string ⟨#[]⟩,.string ⟨#[]⟩]) hS2 rfl fun _ _ hz=>?_
       replace hS2:=hz;clear hz
       refine⟨⟨((HT.out _ hS2.acc).box bx).at 0 rfl,((HT.out _ hS2.acc).box bx).at 2 rfl,HQS.out _ hS2.acc,(HE1.out _ hS2.acc).1.1,(HE1.out _ hS2.acc).1.2.1,(HE1.out _ hS2.acc).1.2.2,(HE2.out _ hS2.acc).1.1,(HE2.out _ hS2.acc).1.2.1,(HE2.out _ hS2.acc).1.2.2⟩,?_⟩)
      |(
       with_reducible refine isC (i:=30) ?_
       refine stS3 (i:=30) (x:=3) hS2 rfl fun wz hz=>?_
       replace hS2:=hz;clear hz
       refine⟨⟨((HT.out _ hS2.acc).box bx).at 0 rfl,((HT.out _ hS2.acc).box bx).at 2 rfl,HQS.out _ hS2.acc,(HE1.out _ hS2.acc).1.1,(HE1.out _ hS2.acc).1.2.1,(HE1.out _ hS2.acc).1.2.2,(HE2.out _ hS2.acc).1.1,(HE2.out _ hS2.acc).1.2.1,(HE2.out _ hS2.acc).1.2.2⟩,?_⟩)
     all_goals(
      refine enP hA ?_
      clear hA HQj HE1 HE2;replace hS2:=hS2.only (a:=boxT gl [.bool (decide (q.num<0)),.string (nb q.num.natAbs),.string (nb q.den)]) (b:=boxT _ [.bool (decide (x'.num<0)),.string (nb x'.num.natAbs),.string (nb x'.den)]) rfl rfl
      go_wp2_with fail
      go_meet
      exact⟨_,rfl,hS2⟩)
    case rest=>
     clear hS2 HQj HE1 HE2 hs;obtain⟨gx,rfl,hS2⟩:=hcut;have ag:=Below.refl wc.heap.size wc;have kx:=hS2.box (i:=3) rfl;have a0:=kx.at 0 rfl;have a1:=kx.at 1 rfl;have a2:=kx.at 2 rfl;have kl:=hS2.box (i:=0) rfl;have b0:=kl.at 0 rfl;have b1:=kl.at 1 rfl;have b2:=kl.at 2 rfl;clear kx kl
     go_wp2_with fail
     clear a0 a1 a2 b0 b1 b2
     with_reducible refine(HCm.out _ _ _ (sx.mono (by decide)) (sq.mono (by decide))).mono ?_
     rintro e wX ⟨rfl,am⟩;replace ag:=ag.tr am;replace hS2:=hS2.below am;clear am
     rcases HZz.out with⟨h1,h2⟩|⟨r,h1,h2,h3⟩
     ·subst h1
      have HZ2:=Lib.hid (h2.take (ord:=id) HP.out);clear h2 HZz;generalize Rq.sgn (x'-q)=sg at*
      go_upto_region 9 with fail
      replace hS2:=hS2.drew
      refine wp_schH (S:=fun _=>True) (hc:=by as_aux_lemma=>kernel_rfl) (.p 0 (.p 1 (.p 2 (.k 3 (.k 4 (.p 5 (.p 6 (.k 7 (.k 8 (.k 9 (.k 10 (.k 11 (.k 12 (.k 13 (.k 14 (.k 15 (.k 16 (.k 17 (.k 18 (.k 19 (.k 20 (.k 21 (.k 22 (.k 23 (.k 24 (.k 25 (.p 26 .e))))))))))))))))))))))))))) [5,10,0,7] fun zA WD hA aq=>?_
      simp only[←aq.out] at hS2
      clear aq
      refine⟨trivial,fun hS0=>?_⟩
      repeat' first
       |((with_reducible refine isP ?_);refine tkO ?_)
       |((with_reducible refine isK ?_);refine skO ?_)
      refine enP hA ?_
      clear hA;have kx:=hS2.box (i:=3) rfl;have a0:=kx.at 0 rfl;have a1:=kx.at 1 rfl;have a2:=kx.at 2 rfl;have kl:=hS2.box (i:=0) rfl;have b0:=kl.at 0 rfl;have b1:=kl.at 1 rfl;have b2:=kl.at 2 rfl;have f0:=kl.fr 0 rfl;have f1:=kl.fr 1 rfl;have f2:=kl.fr 2 rfl;clear kx kl
      go_wp2_with fail
      have hS4:=((hS2.setbox (x:=0) (j:=0) rfl (.bool (decide (x'.num<0))) (by simp)).setbox (x:=0) (j:=1) rfl (.string (nb x'.num.natAbs)) (by simp)).setbox (x:=0) (j:=2) rfl (.string (nb x'.den)) (by simp)
      replace hS4:=(hS4.only (a:=boxT gl [.bool (decide (x'.num<0)),.string (nb x'.num.natAbs),.string (nb x'.den)]) (b:=boxT gx _) rfl rfl).drop3;clear hS2
      go_roundw
      case rel=>exact⟨i+1,by omega,by go_num,(i:Int),x',rfl,hS4,sx,.inr ⟨i,rfl,HZ2.out,HX.out.symm⟩⟩
      case measure=>simp[intOf];omega
     ·subst h1
      have HQr:=Lib.hid h3;have HH:=Lib.hid h2
      have hr:r<m:=by have:=h2.lt;omega
      have hr0: ¬(r:Int)<0:=by omega
      have hdr:decide ((r:Int)<0)=false:=decide_eq_false hr0
      have hr1:(0:Int)≤(r:Int):=by omega
      have hr2:(r:Int)<(m:Int):=by omega
      have hcmp:=Lib.hid (sgn_cmp (p:=x') (q:=q));have hcm3:=Lib.hid (sgn_le0 (p:=x') (q:=q));clear h2 h3 HZz;generalize Rq.sgn (x'-q)=sg at*
      by_cases hlt1:sg<0
      ·have HZ2:=Lib.hid (HH.out.swap HP.out (.inl (by rw[HX.out,←HQr.out];exact hcmp.out.1.1 hlt1)))
       have hd1:decide (sg<0)=true:=decide_eq_true hlt1;clear HH
       go_upto_region 9 with fail
       replace hS2:=hS2.drew
       refine wp_schH (S:=fun _=>True) (hc:=by as_aux_lemma=>kernel_rfl) (.p 0 (.p 1 (.p 2 (.p 3 (.p 4 (.p 5 (.p 6 (.k 7 (.k 8 (.k 9 (.k 10 (.k 11 (.k 12 (.k 13 (.k 14 (.k 15 (.k 16 (.k 17 (.k 18 (.k 19 (.k 20 (.k 21 (.k 22 (.k 23 (.k 24 (.k 25 (.p 26 .e))))))))))))))))))))))))))) [5,10,0,7] fun zA WD hA aq=>?_
       simp only[←aq.out] at hS2
       clear aq
       refine⟨trivial,fun hS0=>?_⟩
       repeat' first
        |((with_reducible refine isP ?_);refine tkO ?_)
        |((with_reducible refine isK ?_);refine skO ?_)
       refine enP hA ?_
       clear hA;have kx:=hS2.box (i:=3) rfl;have a0:=kx.at 0 rfl;have a1:=kx.at 1 rfl;have a2:=kx.at 2 rfl;have kl:=hS2.box (i:=0) rfl;have b0:=kl.at 0 rfl;have b1:=kl.at 1 rfl;have b2:=kl.at 2 rfl;have f0:=kl.fr 0 rfl;have f1:=kl.fr 1 rfl;have f2:=kl.fr 2 rfl;clear kx kl
       go_wp2_with fail
       have hS4:=((hS2.setbox (x:=0) (j:=0) rfl (.bool (decide (x'.num<0))) (by simp)).setbox (x:=0) (j:=1) rfl (.string (nb x'.num.natAbs)) (by simp)).setbox (x:=0) (j:=2) rfl (.string (nb x'.den)) (by simp)
       replace hS4:=(hS4.only (a:=boxT gl [.bool (decide (x'.num<0)),.string (nb x'.num.natAbs),.string (nb x'.den)]) (b:=boxT gx _) rfl rfl).drop3;clear hS2
       go_roundw
       case rel=>exact⟨i+1,by omega,by go_num,(i:Int),x',rfl,hS4,sx,.inr ⟨i,rfl,HZ2.out,HX.out.symm⟩⟩
       case measure=>simp[intOf];omega
      ·have hd1:decide (sg<0)=false:=decide_eq_false hlt1
       by_cases heq:sg=0
       ·have hxq:=hcmp.out.2.1 heq
        have hbi:=HB.out i hlt;have hbr:=HB.out r hr
        have hsb:(sg==0)=true:=by simpa using heq
        have HBS:=Lib.hid (fun W (hb:Below w.heap.size w W) q (hq:q<m)=>(show W.cell? ⟨gb,q,none⟩=some (.int .i64 (U.bas q:Int)) from by
         have hv:=(HT.out W hb).ints bs
         rw[(hv.rowC rfl).2 q (by simpa using hq)]
         simp[List.getD_eq_getElem?_getD,hq]))
        have HXQ:=Lib.hid hxq;clear hxq hbi hbr
        by_cases hbb:U.bas i<U.bas r
        ·have hbi:(U.bas i:Int)<(U.bas r:Int):=by omega
         have HZ2:=Lib.hid (HH.out.swap HP.out (.inr ⟨by rw[HX.out,←HQr.out];exact HXQ.out,by show U.bas i≤U.bas r;omega⟩))
         have hd:decide ((U.bas i:Int)<(U.bas r:Int))=true:=by simpa using hbi
         go_upto_region 9 with fail
         replace hS2:=hS2.drew
         refine wp_schH (S:=fun w'=>w'.cell? ⟨b,1,none⟩=some (.slice (some ⟨gb,0,none⟩) m cb)∧w'.cell? ⟨gb,i,none⟩=some (.int .i64 (U.bas i:Int))∧w'.cell? ⟨gb,r,none⟩=some (.int .i64 (U.bas r:Int))) (hc:=by as_aux_lemma=>kernel_rfl) (.p 0 (.p 1 (.p 2 (.p 3 (.p 4 (.p 5 (.p 6 (.p 7 (.p 8 (.p 9 (.p 10 (.p 11 (.p 12 (.p 13 (.p 14 (.p 15 (.p 16 (.p 17 (.p 18 (.p 19 (.p 20 (.p 21 (.p 22 (.p 23 (.p 24 (.p 25 (.p 26 .e))))))))))))))))))))))))))) [5,10,0,7] fun zA WD hA aq=>?_
         simp only[←aq.out] at hS2
         clear aq
         refine⟨⟨((HT.out _ hS2.acc).box bx).at 1 rfl,HBS.out _ hS2.acc i hlt,HBS.out _ hS2.acc r hr⟩,fun hS0=>?_⟩
         repeat' first
          |((with_reducible refine isP ?_);refine tkO ?_)
          |((with_reducible refine isK ?_);refine skO ?_)
         refine enP hA ?_
         clear hA;have kx:=hS2.box (i:=3) rfl;have a0:=kx.at 0 rfl;have a1:=kx.at 1 rfl;have a2:=kx.at 2 rfl;have kl:=hS2.box (i:=0) rfl;have b0:=kl.at 0 rfl;have b1:=kl.at 1 rfl;have b2:=kl.at 2 rfl;have f0:=kl.fr 0 rfl;have f1:=kl.fr 1 rfl;have f2:=kl.fr 2 rfl;clear kx kl
         go_wp2_with fail
         have hS4:=((hS2.setbox (x:=0) (j:=0) rfl (.bool (decide (x'.num<0))) (by simp)).setbox (x:=0) (j:=1) rfl (.string (nb x'.num.natAbs)) (by simp)).setbox (x:=0) (j:=2) rfl (.string (nb x'.den)) (by simp)
         replace hS4:=(hS4.only (a:=boxT gl [.bool (decide (x'.num<0)),.string (nb x'.num.natAbs),.string (nb x'.den)]) (b:=boxT gx _) rfl rfl).drop3;clear hS2
         go_roundw
         case rel=>exact⟨i+1,by omega,by go_num,(i:Int),x',rfl,hS4,sx,.inr ⟨i,rfl,HZ2.out,HX.out.symm⟩⟩
         case measure=>simp[intOf];omega
        ·have hbi: ¬(U.bas i:Int)<(U.bas r:Int):=by omega
         have HZ2:=Lib.hid (HH.out.keep HP.out (.inr ⟨by rw[HX.out,←HQr.out];exact HXQ.out,by show U.bas r≤U.bas i;omega⟩))
         have hd:decide ((U.bas i:Int)<(U.bas r:Int))=false:=by simpa using hbi
         go_upto_region 9 with fail
         replace hS2:=hS2.drew
         refine wp_schH (S:=fun w'=>w'.cell? ⟨b,1,none⟩=some (.slice (some ⟨gb,0,none⟩) m cb)∧w'.cell? ⟨gb,i,none⟩=some (.int .i64 (U.bas i:Int))∧w'.cell? ⟨gb,r,none⟩=some (.int .i64 (U.bas r:Int))) (hc:=by as_aux_lemma=>kernel_rfl) (.p 0 (.p 1 (.p 2 (.p 3 (.p 4 (.p 5 (.p 6 (.p 7 (.p 8 (.p 9 (.p 10 (.p 11 (.p 12 (.p 13 (.p 14 (.p 15 (.p 16 (.p 17 (.p 18 (.p 19 (.p 20 (.p 21 (.p 22 (.p 23 (.p 24 (.p 25 (.p 26 .e))))))))))))))))))))))))))) [5,10,0,7] fun zA WD hA aq=>?_
         simp only[←aq.out] at hS2
         clear aq
         refine⟨⟨((HT.out _ hS2.acc).box bx).at 1 rfl,HBS.out _ hS2.acc i hlt,HBS.out _ hS2.acc r hr⟩,fun hS0=>?_⟩
         repeat' first
          |((with_reducible refine isP ?_);refine tkO ?_)
          |((with_reducible refine isK ?_);refine skO ?_)
         refine enP hA ?_
         clear hA;have hS4:=hS2.drop3;clear hS2
         go_wp2_with fail
         go_roundw
         case rel=>exact⟨i+1,by omega,by go_num,_,q,rfl,hS4,sq,.inr ⟨r,rfl,HZ2.out,HQr.out⟩⟩
         case measure=>simp[intOf];omega
       ·have hgt:q<x':=by
         refine Rat.not_le.1 fun h=>?_
         have:=hcm3.out.2 h
         omega
        have HZ2:=Lib.hid (HH.out.keep HP.out (.inl (by rw[HX.out,←HQr.out];exact hgt)))
        have hsb:(sg==0)=false:=by simpa using heq
        clear hgt
        go_upto_region 9 with fail
        replace hS2:=hS2.drew
        refine wp_schH (S:=fun _=>True) (hc:=by as_aux_lemma=>kernel_rfl) (.p 0 (.p 1 (.p 2 (.p 3 (.p 4 (.p 5 (.p 6 (.p 7 (.p 8 (.p 9 (.k 10 (.k 11 (.k 12 (.k 13 (.k 14 (.k 15 (.k 16 (.k 17 (.k 18 (.k 19 (.k 20 (.k 21 (.k 22 (.k 23 (.k 24 (.p 25 (.p 26 .e))))))))))))))))))))))))))) [5,10,0,7] fun zA WD hA aq=>?_
        simp only[←aq.out] at hS2
        clear aq
        refine⟨trivial,fun hS0=>?_⟩
        repeat' first
         |((with_reducible refine isP ?_);refine tkO ?_)
         |((with_reducible refine isK ?_);refine skO ?_)
        refine enP hA ?_
        clear hA;have hS4:=hS2.drop3;clear hS2
        go_wp2_with fail
        go_roundw
        case rel=>exact⟨i+1,by omega,by go_num,_,q,rfl,hS4,sq,.inr ⟨r,rfl,HZ2.out,HQr.out⟩⟩
        case measure=>simp[intOf];omega
  ·obtain rfl:m=i:=by omega
   have hi1: ¬(m:Int)<(m:Int):=by omega
   have HZz:=Lib.hid hz;clear hz;have ag:=hS2.acc
   go_wp2_with fail
   go_ret
   refine⟨_,rfl,ag,?_⟩
   rcases HZz.out with h|⟨r,h1,h2,_⟩
   ·exact .inl h
   ·exact .inr ⟨r,h1,h2⟩
end Go.Proofs.YtinmmkcjjlconaaGreat
namespace Go.Proofs.YtinmmkcjjlconaaGreat
open Go.RowKit W
open Pl (nb)
open Lp (Tab wc Climb Inv0 Pos)
theorem best_step {m N var:Nat} {T:Tab} {g:Nat→Rat} {r c:Nat} (hb:Lp.Best id (wc m T g) c m r) (hc:c<var) (hv:var≤N) (hp:0<(wc m T g).c c) (hl: ∀j,j<c→(wc m T g).c j≤0):Lp.Step m N id (· <var) (wc m T g) r c where
 hr:=hb.lt
 hs:=by omega
 als:=hc
 cs:=hp
 least:=fun j _ _ h=>hl j h
 ars:=hb.pos
 ratio:=hb.ratio
 tie:=hb.tie
theorem ix_next {P k var c:Nat} (hk:k<P) (_hc:c<var):(P-(k+1))*(var+1)+(var-0)<(P-k)*(var+1)+(var-c):=by
 obtain⟨q,hq⟩: ∃q,P-k=q+1:=⟨P-k-1,by omega⟩
 have h1:P-(k+1)=q:=by omega
 rw[h1,hq,Nat.add_mul]
 omega
theorem rclimb_any (w0 w:World) (b m N var:Nat) (T:Tab) (g:Nat→Rat) (h:RT w0 w b m N (wc m T g)) (hvar:var≤N) (hm:m≤100) (hN:N≤900) (hI:Inv0 m N T) (hP:Pos m T) (hsz: ∀k U,Climb m N id (· <var) g k T U→(∀i j,i<m→j≤N→Sz (rowF N (wc m U g) i j) 40000)∧(∀j,j≤N→Sz (costF N (wc m U g) j) 40000)):
    Calls Tryz.prog 50 #[.pointer (some ⟨b,0,none⟩),.int .i64 (var:Int)] w fun e w'=> ∃k U,Climb m N id (· <var) g k T U∧RT w0 w' b m N (wc m U g)∧((e= .returned (.bool true)∧Lp.End m N (· <var) g U)∨(e= .returned (.bool false)∧∃s,Lp.Free m N id (· <var) g U s)):=by
  go_enter Tryz.func50,Tryz.ntmps50
  go_wp2_with fail
  refine wp_loop_ix (n:=(2^N-0)*(var+1)+(var-0)) (fun ix a W=> ∃k U c,Climb m N id (· <var) g k T U∧RT w0 W b m N (wc m U g)∧c≤var∧(∀j,j<c→(wc m U g).c j≤0)∧ix=(2^N-k)*(var+1)+(var-c)∧∃x2 x3 x4 x6 x7 x8 x9 x10 x11 x12 x13 x14 x15 x16 x17 x18 x19 x20 x21 x22 x23 x24 x25 x26 x27 x28 x29:Value,a= {tmps:= #[.pointer (some ⟨b,0,none⟩),.int .i64 (var:Int),x2,x3,x4,.int .i64 (c:Int),x6,x7,x8,x9,x10,x11,x12,x13,x14,x15,x16,x17,x18,x19,x20,x21,x22,x23,x24,x25,x26,x27,x28,x29],defers:= []})
    ⟨0,T,0,.refl T,h,Nat.zero_le _,fun j hj=>by omega,rfl,_,_,_,_,_,_,_,_,_,_,_,_,_,_,_,_,_,_,_,_,_,_,_,_,_,_,_,rfl⟩ ?_
  clear h;rintro ix a W ⟨k,U,c,hcl,hU,hcv,hle,hix,x2,x3,x4,x6,x7,x8,x9,x10,x11,x12,x13,x14,x15,x16,x17,x18,x19,x20,x21,x22,x23,x24,x25,x26,x27,x28,x29,rfl⟩;have hk:=hcl.short hI hP (fun _ _ e=>e);obtain⟨hI2,hP2,_⟩:=hcl.all hI hP;obtain⟨sR,sC⟩:=hsz k U hcl
  have hw1:IntKind.i64.wrap ((c:Int)+1)=(c:Int)+1:=by rw[IntKind.wrap_i64];omega
  have HB9:=Lib.hid (fun i (hi:i<m)=>(show(wc m U g).bas i≤100000 from by have h9:U.bas i<N:=hI2.bas i hi;show U.bas i≤100000;omega))
  have HLE:=Lib.hid hle;have HCL:=Lib.hid hcl;clear hle hcl
  by_cases hlt:c<var
  · have hc0:(0:Int)≤(c:Int):=by omega
    have hcl:(c:Int)<(var:Int):=by omega
    have hcN:c<N+1:=by omega
    have HCN:=Lib.hid (show c<N by omega)
    obtain⟨ar,cr,ab,cb,ac,cc,rv_,Tt,hS,hp⟩:=id hU
    obtain⟨gc,rfl,_⟩:=(hS.lst hp.co).slr.get (show 0<N+1 by omega)
    have k0:=(hS.box hp.bx).at 2 rfl
    obtain⟨⟨e0,e1,e2⟩,_⟩:=(hS.e3 hp.co hcN).to (cost_lt (show c<N by omega))
    dsimp only[q3] at e0 e1 e2
    have hcc:(c:Int)<((N+1:Nat):Int):=by omega
    have HSg:=Lib.hid (fun W=>rsign2_any ((wc m U g).c c) W ((((cost_lt (show c<N by omega):costF N (wc m U g) c=_)▸sC c (by omega))).mono (by decide)))
    simp only[rv] at HSg
    generalize N+1=M at*;clear hS
    go_wp2_with fail
    clear k0 e0 e1 e2
    with_reducible refine(HSg.out _).mono ?_
    rintro e wX ⟨rfl,am⟩;have hU:=hU.below am;clear am
    by_cases hpc:(wc m U g).c c≤0
    · have hs:=sgn_pos'.2 hpc
      have HP:=Lib.hid hpc;clear hpc
      go_wp2_with fail
      exact⟨_,by rw[hix];omega,k,U,c+1,HCL.out,hU,by omega,fun j hj=>(by
        rcases(by omega:j<c∨j=c) with h|rfl
        ·exact HLE.out j h
        ·exact HP.out),rfl,_,_,_,_,_,_,_,_,_,_,_,_,_,_,_,_,_,_,_,_,_,_,_,_,_,_,_,rfl⟩
    · have hs: ¬Rq.sgn ((wc m U g).c c)≤0:=fun h=>hpc (sgn_pos'.1 h)
      have HP:=Lib.hid (Rat.not_le.1 hpc);clear hpc
      go_wp2_with fail
      with_reducible refine(rleaving_any w0 _ b m N (wc m U g) c hU HCN.out hm hN sR HB9.out).mono ?_
      rintro e wL hz;obtain⟨z,rfl,am,hz⟩:=hz.ex;have hU:=hU.below am;clear am
      rcases hz with⟨rfl,hno⟩|⟨r,rfl,hbest⟩
      · have HF:Hid (Lp.Free m N id (· <var) g U c):=Lib.hid ⟨by omega,hlt,HP.out,fun j _ _ h=>HLE.out j h,hno⟩
        clear hno
        go_wp2_with fail
        go_ret
        exact⟨k,U,HCL.out,hU,.inr ⟨rfl,c,HF.out⟩⟩
      · have hst:=best_step hbest hlt hvar HP.out HLE.out
        have hrm:=hbest.lt;have hne:(wc m U g).a r c≠0:=Rat.ne_of_gt hbest.pos
        have hr0: ¬(r:Int)<0:=by omega
        have HST:=Lib.hid hst;have HNE:=Lib.hid hne;clear hst hbest hne
        go_wp2_with fail
        with_reducible refine(rpivot_any w0 _ b m N (wc m U g) r c hU hrm HCN.out HNE.out hm hN sR sC).mono ?_
        rintro e wP ⟨⟨v,rfl⟩,hU2⟩;rw[←Lp.wc_pivot (T:=U) hrm HNE.out] at hU2
        go_wp2_with fail
        exact⟨_,by rw[hix];exact ix_next hk hlt,k+1,Lp.pivot U r c,0,HCL.out.step HST.out,hU2,Nat.zero_le _,fun j hj=>(by omega),rfl,_,_,_,_,_,_,_,_,_,_,_,_,_,_,_,_,_,_,_,_,_,_,_,_,_,_,_,rfl⟩
  · have hcl: ¬(c:Int)<(var:Int):=by omega
    go_wp2_with fail
    go_ret
    exact⟨k,U,HCL.out,hU,.inl ⟨rfl,fun j _ hj=>HLE.out j (by have hj:j<var:=hj;omega)⟩⟩
end Go.Proofs.YtinmmkcjjlconaaGreat
namespace Go.Proofs.YtinmmkcjjlconaaGreat
open Go.RowKit W
open Pl (nb bv bv_nb nb_size_zero)
open Lp (S S_succ Cert Out Unb)
theorem app_slr {w:World} {ops:Array Oper} {rest:List Oper} {o:Oper} {a:Act} {Q:Exit→Act→World→Prop} {s x:Operand} {v v2:Value} {l:List Raw} {m:Nat} {F:Nat→Rat}
  (hgd:o.guard=none)
  (ho:o.op= .call {callee:=.builtin .append,args:= #[s,x],argTypes:= #[27,27]})
  (hs:a.eval s=v) (hx:a.eval x=v2) (B:Nat) (hown:Rats w B v l) (h2:SlR w v2 m F)
  (hlen:l.length+m<1000000000) (hB:B≤w.heap.size)
  (h: ∀v' w',Rats w' B v' (l++raws m F)→w.grownBy w' v.ownBlock→(v'.ownBlock=v.ownBlock∨v'.ownBlock=some w.heap.size)→wpList Tryz.prog ops Q rest (a.put o.dst v') w'):wpList Tryz.prog ops Q (o::rest) a w:=by
 refine wpList_plain hgd fun K hK=>?_
 obtain⟨v',w',hr,e1,e2,e3⟩:=run_app_slr o.type hown h2 hlen hB;unfold Oper.wp execOp
 simp only[ho,resolve,invoke,builtin,Sem.run_bind,Sem.run_pure,Result.andThen_ok,List.map_toArray,List.map_cons,List.map_nil,hs,hx,hr]
 exact hK _ _ (h v' w' e1 e2 e3)
theorem Sep.rebase {wb wc W:World} {T:Nat→Thing} (hb:Below wb.heap.size wb wc) (h:Sep wc W T):Sep wb W T where
 acc:=hb.trans (h.acc.mono hb.size)
 p:=h.p
 o:=fun i b hi=>by have:=h.o i b hi;have:=hb.size;omega
 d:=h.d
theorem Sep.appI {wb W W':World} {T:Nat→Thing} {x:Nat} {v v':Value} {l l':List Value} (h:Sep wb W T) (e:T x=intT v l) (hg:W.grownBy W' v.ownBlock) (hv:Vals 3 W' 0 v' l') (ho:v'.ownBlock=v.ownBlock∨v'.ownBlock=some W.heap.size):Sep wb W' (upd T x (intT v' l')):=by
 refine h.step x _ ?_ hv (fun b hb=>?_)
 ·rw[e];exact off_grown hg
 ·rw[e]
  rcases ho with eo|eo
  ·exact .inl (by show v.ownBlock=some b;rw[←eo];exact hb)
  ·have hb:v'.ownBlock=some b:=hb
   have:=hv.low b hb;rw[eo] at hb
   obtain rfl:W.heap.size=b:=by simpa using hb
   exact .inr ⟨Nat.le_refl _,this⟩
section
variable {m n:Nat} {A:Nat→Nat→Rat} {B:Nat→Rat} {i j k:Nat}
abbrev row0 (m n:Nat) (A:Nat→Nat→Rat) (B:Nat→Rat) (i:Nat):Nat→Rat:=rowF (n+m+1) (Lp.tab0 m n A B) i
theorem row0_lt (h:j<n):row0 m n A B i j=A i j:=by
 unfold row0
 rw[row_lt (by omega)]
 exact if_pos h
theorem row0_slack (hk:k<m):row0 m n A B i (n+k)=if i=k then 1 else 0:=by
 unfold row0
 rw[row_lt (by omega)]
 exact Lp.mat_slack i k hk
theorem row0_help:row0 m n A B i (n+m)= -1:=by
 unfold row0
 rw[row_lt (by omega)]
 show Lp.mat m n A i (n+m)= -1
 unfold Lp.mat
 rw[if_neg (by omega),if_pos rfl]
theorem row0_end:row0 m n A B i (n+m+1)=B i:=row_end
theorem cost0:costF (n+m+1) (Lp.tab0 m n A B) j=0:=by
 unfold costF
 split
 ·rfl
 ·exact Rat.neg_zero
end
theorem newTable_any (m n:Nat) (A:Nat→Nat→Rat) (B C:Nat→Rat) (a0 a1 a2:Option Addr) (c0 c1 c2:Nat) (w:World) (h:PR w (.agg #[.slice a0 m c0,.slice a1 m c1,.slice a2 n c2]) m n A B C) (hm:m≤100) (hn:n≤400):
  Calls Tryz.prog 46 #[.agg #[.slice a0 m c0,.slice a1 m c1,.slice a2 n c2]] w fun e w'=> ∃b,e= .returned (.pointer (some ⟨b,0,none⟩))∧RT w w' b m (n+m+1) (Lp.tab0 m n A B):=by
 obtain⟨hPA,hPB,_⟩:=h.parts
 have HO1:=Lib.hid (fun W=>rof2_any 1 W (by decide) (by decide))
 have HOm:=Lib.hid (fun W=>rof2_any (-1) W (by decide) (by decide))
 have HZ:=Lib.hid (fun W=>rzero_any W);obtain⟨z0,hz0⟩: ∃z:Rat,z=0:=⟨_,rfl⟩;obtain⟨z1,hz1⟩: ∃z:Rat,z=1:=⟨_,rfl⟩;obtain⟨zm,hzm⟩: ∃z:Rat,z= -1:=⟨_,rfl⟩;rw[show((1:Int):Rat)=z1 from hz1.symm▸rfl] at HO1;rw[show((-1:Int):Rat)=zm from hzm.symm▸rfl] at HOm;rw[←hz0] at HZ;have H0:=Lib.hid hz0;have H1:=Lib.hid hz1;have Hm:=Lib.hid hzm
 simp only[rv] at HO1 HOm HZ
 clear h hz0 hz1 hzm
 go_enter Tryz.func46,Tryz.ntmps46
 have⟨bP,ag⟩:=opn1 w [.slice a0 m c0,.slice a1 m c1,.slice a2 n c2] 29
 go_upto_region 1 with fail
 generalize w.alloc (.cells #[.slice a0 m c0,.slice a1 m c1,.slice a2 n c2] 29)=W0 at*;obtain⟨gP,hgP⟩: ∃g,g=w.heap.size:=⟨_,rfl⟩;rw[←hgP] at bP
 simp only[←hgP]
 have kgP:w.heap.size≤gP:=by omega
 clear hgP
 go_upto_region 1 with fail
 have HbP:=Lib.hid (fun W (hb:Below W0.heap.size W0 W)=>bP.below hb);have HB0:=Lib.hid ag;have HA:=Lib.hid (fun i (hi:i<m)=>(hPA.row hi));have HBb:=Lib.hid (fun i (hi:i<m)=>(hPB.get hi));have HA2:=Lib.hid (fun W (hb:Below W0.heap.size W0 W)=>ag.tr hb);clear hPA hPB bP ag kgP;obtain⟨wB,hwB⟩: ∃wB,wB=W0:=⟨_,rfl⟩
 simp only[←hwB] at*
 clear hwB;have hS:=(Sep.start (Below.refl wB.heap.size wB)).newbox (x:=0) rfl [.slice none 0 0,.slice none 0 0,.slice none 0 0] 83
 go_upto_region 2 with fail
 generalize wB.heap.size=b at hS⊢;generalize wB.alloc (.cells #[.slice none 0 0,.slice none 0 0,.slice none 0 0] 83)=W1 at*;have hx:=HbP.out _ hS.acc;have k0:=hx.at 0 rfl;have k2:=hx.at 2 rfl;clear hx
 go_wp2_with fail
 clear k0 k2
 go_loopw [6] (fun s6 wr=> ∃i:Nat,i≤m∧s6= .int .i64 (i:Int)∧∃vA vB T rv_,Sep wB wr T∧T 0=boxT b [vA,vB,.slice none 0 0]∧T 1=valsT vA ((List.range i).map rv_)∧T 2=intT vB ((List.range i).map fun q:Nat=>.int .i64 ((n:Int)+(q:Int)))∧(∀q,q<i→T (4+q)=listT (rv_ q) (raws (n+m+2) (row0 m n A B q)))∧∀x,x=3∨4+i≤x→T x=nothing) (fun s6 _=>m-(intOf s6).toNat)
 case atStart=>exact⟨0,by omega,rfl,.slice none 0 0,.slice none 0 0,_,fun _=>undef,(hS.same 1 (valsT (.slice none 0 0) []) (Vals.nil _ _ _) (fun _ e=>(own_none e).elim)).same 2 (intT (.slice none 0 0) []) (Vals.nil _ _ _) (fun _ e=>(own_none e).elim),rfl,rfl,rfl,fun q hq=>by omega,fun x hx=>by
  rw[upd_ne (by omega),upd_ne (by omega),upd_ne (by omega)]⟩
 case round=>
  clear hS;obtain⟨i,hi,rfl,vA,vB,T,rv_,hS,t0,t1,t2,tr,tn⟩:=hrel
  have hw1:IntKind.i64.wrap ((i:Int)+1)=(i:Int)+1:=by rw[IntKind.wrap_i64];omega
  by_cases hlt:i<m
  ·have hi0:(0:Int)≤(i:Int):=by omega
   have hi1:(i:Int)<(m:Int):=by omega
   obtain⟨bA,aR,cR,rfl,hAR⟩:=HA.out i hlt;have HAR:=Lib.hid (fun W hb=>hAR W (HA2.out W hb));clear hAR
   have hlit:Rats (wr.alloc (.cells #[] 33)) 0 (.slice (some ⟨wr.heap.size,0,none⟩) 0 0) []:=Rats.lit wr (Nat.zero_le _) [] (by simp)
   have hb1:=(Below.refl wr.heap.size wr).alloc (Nat.le_refl _) (.cells #[] 33);have hS1:=hS.newlit (tn (4+i) (.inr (Nat.le_refl _))) hlit (Nat.le_refl _) hb1;have k0:=(HbP.out _ hS1.acc).at 0 rfl;obtain⟨k1,hsl1⟩:=HAR.out _ hS1.acc
   have hln:([]:List Raw).length+n<1000000000:=by simp;omega
   clear hlit hb1
   go_wp2_with (at_builtin;refine app_slr (by rfl) (by rfl) (by rfl) (by rfl) 0 (hS1.lst (upd_same _ _ _)) hsl1 hln (Nat.zero_le _) ?_;intro v2 w2_ e1 e2 e3)
   have hSb:=hS1.app (upd_same _ _ _) e2 e1 e3;rw[upd_upd,List.nil_append,show raws n (A i)=raws n (row0 m n A B i) from raws_congr fun j hj=>(row0_lt hj).symm] at hSb;clear hS hS1 hsl1 hln e1 e2 e3 k0 k1
   go_loopw [7,8] (fun s7 s8 wr=> ∃k:Nat,k≤m∧s8= .int .i64 (k:Int)∧Sep wB wr (upd T (4+i) (listT s7 (raws (n+k) (row0 m n A B i))))) (fun _ s8 _=>m-(intOf s8).toNat)
   case atStart=>exact⟨0,by omega,rfl,hSb⟩
   case round=>
    clear hSb;obtain⟨k,hk,rfl,hS⟩:=hrel
    have hw2:IntKind.i64.wrap ((k:Int)+1)=(k:Int)+1:=by rw[IntKind.wrap_i64];omega
    by_cases hkt:k<m
    ·have hk0:(0:Int)≤(k:Int):=by omega
     have hk1:(k:Int)<(m:Int):=by omega
     have ag:=Below.refl wr.heap.size wr
     by_cases hki:i=k
     ·have he:(k:Int)=(i:Int):=by omega
      have HX:Hid (raws (n+(k+1)) (row0 m n A B i)=raws (n+k) (row0 m n A B i)++ [⟨decide (z1.num<0),nb z1.num.natAbs,nb z1.den⟩]):=Lib.hid (by
       have h:=raws_succ (n+k) (row0 m n A B i);rw[row0_slack hkt,if_pos hki,←H1.out] at h
       exact h)
      clear hki;have HIE:=Lib.hid he
      have hse:((k:Int)==(i:Int))=true:=by rw[he];simp
      clear he
      go_wp2_with fail
      with_reducible refine(HO1.out _).mono ?_
      rintro e wX ⟨rfl,am⟩;replace ag:=ag.tr am;replace hS:=hS.below am;clear am
      have hL:=Rats.lit (B:=0) wX (Nat.zero_le _) [⟨decide (z1.num<0),nb z1.num.natAbs,nb z1.den⟩] (by simp)
      have hSa:=hS.alloc (.cells #[.bool (decide (z1.num<0)),.string (nb z1.num.natAbs),.string (nb z1.den)] 33)
      have hln:(raws (n+k) (row0 m n A B i)).length+ [(⟨decide (z1.num<0),nb z1.num.natAbs,nb z1.den⟩:Raw)].length<1000000000:=by rw[raws_len];simp;omega
      go_wp2_with (at_builtin;refine app_rats (by rfl) (by rfl) (by rfl) (by rfl) 0 (hSa.lst (upd_same _ _ _)) hL hln (Nat.zero_le _) ?_;intro v2 w2_ e1 e2 e3)
      have hSb:=hSa.app (upd_same _ _ _) e2 e1 e3;rw[upd_upd,←HX.out] at hSb;clear hS hSa hL hln e1 e2 e3;clear ag
      go_wp2_with fail
      go_roundw
      case rel=>exact⟨k+1,by omega,by go_num,hSb⟩
      case measure=>simp[intOf];omega
     ·have he: ¬(k:Int)=(i:Int):=by omega
      have HX:Hid (raws (n+(k+1)) (row0 m n A B i)=raws (n+k) (row0 m n A B i)++ [⟨decide (z0.num<0),nb z0.num.natAbs,nb z0.den⟩]):=Lib.hid (by
       have h:=raws_succ (n+k) (row0 m n A B i);rw[row0_slack hkt,if_neg hki,←H0.out] at h
       exact h)
      clear hki
      go_wp2_with fail
      with_reducible refine(HZ.out _).mono ?_
      rintro e wX ⟨rfl,am⟩;replace ag:=ag.tr am;replace hS:=hS.below am;clear am
      have hL:=Rats.lit (B:=0) wX (Nat.zero_le _) [⟨decide (z0.num<0),nb z0.num.natAbs,nb z0.den⟩] (by simp)
      have hSa:=hS.alloc (.cells #[.bool (decide (z0.num<0)),.string (nb z0.num.natAbs),.string (nb z0.den)] 33)
      have hln:(raws (n+k) (row0 m n A B i)).length+ [(⟨decide (z0.num<0),nb z0.num.natAbs,nb z0.den⟩:Raw)].length<1000000000:=by rw[raws_len];simp;omega
      go_wp2_with (at_builtin;refine app_rats (by rfl) (by rfl) (by rfl) (by rfl) 0 (hSa.lst (upd_same _ _ _)) hL hln (Nat.zero_le _) ?_;intro v2 w2_ e1 e2 e3)
      have hSb:=hSa.app (upd_same _ _ _) e2 e1 e3;rw[upd_upd,←HX.out] at hSb;clear hS hSa hL hln e1 e2 e3;clear ag
      go_wp2_with fail
      go_roundw
      case rel=>exact⟨k+1,by omega,by go_num,hSb⟩
      case measure=>simp[intOf];omega
    ·obtain rfl:m=k:=by omega
     have hk1: ¬(m:Int)<(m:Int):=by omega
     obtain⟨bB,rfl,hBi⟩:=HBb.out i hlt;have HBi:=Lib.hid (fun W hb=>hBi W (HA2.out W hb))
     have HX:Hid (raws (n+m+2) (row0 m n A B i)=raws (n+m) (row0 m n A B i)++ [⟨decide (zm.num<0),nb zm.num.natAbs,nb zm.den⟩,⟨decide ((B i).num<0),nb (B i).num.natAbs,nb (B i).den⟩]):=Lib.hid (by
      have h:=raws_succ (n+m+1) (row0 m n A B i);rw[raws_succ (n+m),List.append_assoc,row0_help,row0_end,←Hm.out] at h
      exact h)
     clear hBi;generalize B i=u' at*
     go_upto_region 14 with fail
     go_cut [61] from 46 to 63 (fun _ wx=> ∃U a c e d,Sep wB wx U∧(∀x,x≠4+i→x≠1→x≠0→U x=T x)∧U (4+i)=listT (.slice e (n+m+2) d) (raws (n+m+2) (row0 m n A B i))∧U 1=valsT (.slice a (i+1) c) ((List.range i).map rv_++ [.slice e (n+m+2) d])∧U 0=boxT b [.slice a (i+1) c,vB,.slice none 0 0])
     case first=>
      replace hS:=hS.drew
      refine wp_schH (S:=fun w'=>w'.cell? ⟨gP,1,none⟩=some (.slice (some ⟨bB,0,none⟩) m c1)∧w'.cell? ⟨bB,i*3,none⟩=some (.bool (decide (u'.num<0)))∧w'.cell? ⟨bB,i*3+1,none⟩=some (.string (nb u'.num.natAbs))∧w'.cell? ⟨bB,i*3+1+1,none⟩=some (.string (nb u'.den))) (hc:=by as_aux_lemma=>kernel_rfl) (.p 0 (.p 1 (.p 2 (.p 3 (.p 5 (.p 7 (.p 8 (.p 9 (.p 10 (.p 11 (.b (.c 4 (.c 6 (.c 12 (.c 13 (.c 14 (.c 15 (.p 16 (.p 17 (.c 18 .e))))))))) (.c 6 (.b (.c 4 (.c 12 (.c 13 (.c 14 (.c 15 (.p 16 (.p 17 (.c 18 .e)))))))) (.c 12 (.b (.c 4 (.c 13 (.c 14 (.c 15 (.p 16 (.p 17 (.c 18 .e))))))) (.c 13 (.b (.c 4 (.c 14 (.c 15 (.p 16 (.p 17 (.c 18 .e)))))) (.c 14 (.c 4 (.c 15 (.p 16 (.p 17 (.c 18 .e))))))))))))))))))))))) [3,7,1,6] fun zA WD hA aq=>?_
      simp only[←aq.out] at hS
      clear aq
      refine⟨⟨(HbP.out _ hS.acc).at 1 rfl,(HBi.out _ hS.acc).1,(HBi.out _ hS.acc).2.1,(HBi.out _ hS.acc).2.2⟩,fun hS0=>?_⟩
      repeat' first
       |((with_reducible refine isP ?_);refine tkO ?_)
       |(with_reducible refine brO ?_ ?_)
       |(
        with_reducible refine isC (i:=4) ?_
        refine ldC (i:=4) ((hS.box (upd_o (by omega) t0)).at 0 rfl) ⟨(HbP.out _ hS.acc).at 1 rfl,(HBi.out _ hS.acc).1,(HBi.out _ hS.acc).2.1,(HBi.out _ hS.acc).2.2⟩ ?_)
       |(
        with_reducible refine isC (i:=6) ?_
        refine caO (i:=6) (HOm.out _) fun e wn hz=>?_
        obtain⟨rfl,hb⟩:=hz;replace hS:=hS.below hb;clear hb
        refine⟨_,rfl,⟨(HbP.out _ hS.acc).at 1 rfl,(HBi.out _ hS.acc).1,(HBi.out _ hS.acc).2.1,(HBi.out _ hS.acc).2.2⟩,?_⟩)
       |(
        with_reducible refine isC (i:=12) ?_
        refine liO (i:=12) (k:=2) (l:= [⟨decide (zm.num<0),nb zm.num.natAbs,nb zm.den⟩,⟨decide (u'.num<0),nb u'.num.natAbs,nb u'.den⟩]) (by simp) rfl rfl fun _ _ hr hg hb=>?_
        replace hS:=hS.below hb;have hlit:=hr;clear hr hg hb
        refine⟨⟨(HbP.out _ hS.acc).at 1 rfl,(HBi.out _ hS.acc).1,(HBi.out _ hS.acc).2.1,(HBi.out _ hS.acc).2.2⟩,?_⟩)
       |(
        with_reducible refine isC (i:=13) ?_
        refine apS (i:=13) (x:=4+i) (k:=n+m+2) hS (upd_same _ _ _) hlit (by rw[raws_len];rfl) (by omega) fun aX cX wa hz _=>?_
        replace hS:=hz;clear hz hlit;rw[upd_upd,←HX.out] at hS
        refine⟨⟨(HbP.out _ hS.acc).at 1 rfl,(HBi.out _ hS.acc).1,(HBi.out _ hS.acc).2.1,(HBi.out _ hS.acc).2.2⟩,?_⟩)
       |(
        with_reducible refine isC (i:=14) ?_
        refine liV (i:=14) (k:=1) (l:= [.slice aX (n+m+2) cX]) (by simp) rfl fun _ _ hr hg hb=>?_
        replace hS:=hS.below hb;have hlitV:=hr;clear hr hg hb
        refine⟨⟨(HbP.out _ hS.acc).at 1 rfl,(HBi.out _ hS.acc).1,(HBi.out _ hS.acc).2.1,(HBi.out _ hS.acc).2.2⟩,?_⟩)
       |(
        with_reducible refine isC (i:=15) ?_
        refine apV (i:=15) (x:=1) (k:=i+1) hS (upd_o (by omega) t1) hlitV (fun u hu=>by simp only[List.mem_singleton] at hu;subst hu;rfl) (by simp) (by omega) fun aV cV wa hz _=>?_
        replace hS:=hz;clear hz hlitV
        refine⟨⟨(HbP.out _ hS.acc).at 1 rfl,(HBi.out _ hS.acc).1,(HBi.out _ hS.acc).2.1,(HBi.out _ hS.acc).2.2⟩,?_⟩)
       |(
        with_reducible refine isC (i:=18) ?_
        refine stB (i:=18) (x:=0) (j:=0) hS (upd_o (by omega) (upd_o (by omega) t0)) rfl fun ws hz=>?_
        replace hS:=hz;clear hz
        refine⟨⟨(HbP.out _ hS.acc).at 1 rfl,(HBi.out _ hS.acc).1,(HBi.out _ hS.acc).2.1,(HBi.out _ hS.acc).2.2⟩,?_⟩)
      all_goals(
       refine enP hA ?_
       clear hA
       simp only[List.set] at hS
       obtain⟨U,hS,hk,h1,h2,h3⟩:=hS.gen3 (by omega) (by omega) (by decide)
       go_wp2_with fail
       go_meet
       exact⟨U,_,_,_,_,hS,hk,h1,h2,h3⟩)
     case rest=>
      clear hS HX;obtain⟨U,aA,cA,aE,cE,hS,hk,u4,hu1,hu0⟩:=hcut
      have hu2:=(hk 2 (by omega) (by decide) (by decide)).trans t2
      have hw3:IntKind.i64.wrap ((n:Int)+(i:Int))=(n:Int)+(i:Int):=by rw[IntKind.wrap_i64];omega
      have hL:=Vals.lit (B:=0) wc (Nat.zero_le _) 3 [.int .i64 ((n:Int)+(i:Int))] (by simp)
      have hSa:=hS.alloc (.cells #[.int .i64 ((n:Int)+(i:Int))] 3)
      have hone: ∀u∈ [Value.int .i64 ((n:Int)+(i:Int))],u.oneCell'=true:=fun u hu=>by simp only[List.mem_singleton] at hu;subst hu;rfl
      have hlen:((List.range i).map fun q:Nat=>Value.int .i64 ((n:Int)+(q:Int))).length+ [Value.int .i64 ((n:Int)+(i:Int))].length<1000000000:=by simp only[List.length_map,List.length_range,List.length_cons,List.length_nil];omega
      have k1:=(hS.box hu0).at 1 rfl
      go_wp2_with (at_builtin;refine app_vals Tryz.underlying81 info_int rfl (by decide) (by rfl) (by rfl) (by rfl) (by rfl) 0 (hSa.ints hu2) hL hone hlen (Nat.zero_le _) ?_;intro vB2 w2_ e1 e2 e3;clear k1;obtain⟨aY,cY,rfl⟩: ∃a c,vB2= .slice a (i+1) c:=(by obtain⟨a,c,e,_⟩:=e1.form;simp only[List.length_append,List.length_map,List.length_range,List.length_cons,List.length_nil,Nat.zero_add] at e;exact⟨a,c,e⟩);have hSb:=hSa.appI hu2 e2 e1 e3;have k1:=(hSb.box (upd_o (by decide) hu0)).at 1 rfl;have f1:=(hSb.box (upd_o (by decide) hu0)).fr 1 rfl)
      have hSc:=hSb.setbox (upd_o (by decide) hu0) (.slice aY (i+1) cY) (j:=1) (by simp)
      simp only[List.set] at hSc
      obtain⟨V,hSd,hk2,v2,v0⟩:=hSc.gen2 (by decide)
      clear hS hSa hSb hSc hL hone hlen e1 e2 e3 k1 f1
      go_roundw
      case rel=>
       refine⟨i+1,by omega,by go_num,_,_,V,upd rv_ i (.slice aE (n+m+2) cE),hSd,v0,?_,?_,fun q hq=>?_,fun x hx=>?_⟩
       ·rw[(hk2 1 (by decide) (by decide)).trans hu1,List.range_succ,List.map_append,List.map_singleton,upd_same]
        congr 2
        exact List.map_congr_left fun q hq=>by rw[upd_ne (Nat.ne_of_lt (List.mem_range.1 hq))]
       ·rw[v2,List.range_succ,List.map_append,List.map_singleton]
       ·by_cases e:q=i
        ·subst e
         rw[upd_same]
         exact(hk2 _ (by omega) (by omega)).trans u4
        ·rw[upd_ne e]
         exact(hk2 _ (by omega) (by omega)).trans ((hk _ (by omega) (by omega) (by omega)).trans (tr q (by omega)))
       ·exact(hk2 x (by omega) (by omega)).trans ((hk x (by omega) (by omega) (by omega)).trans (tn x (by omega)))
      case measure=>simp[intOf];omega
  ·obtain rfl:m=i:=by omega
   have hi1: ¬(m:Int)<(m:Int):=by omega
   have t3:=tn 3 (.inl rfl);have hS3:=hS.same 3 (listT (.slice none 0 0) []) (Rats.nil _ _) (fun _ e=>(own_none e).elim);obtain⟨V,hS,hk,v3⟩:=hS3.gen1
   have v0:=(hk 0 (by decide)).trans t0
   have v1:=(hk 1 (by decide)).trans t1
   have v2:=(hk 2 (by decide)).trans t2
   have vr:=fun q (hq:q<m)=>(hk (4+q) (by omega)).trans (tr q hq)
   clear hS3 t0 t1 t2 tr tn hk t3
   have hwn:IntKind.i64.wrap ((n:Int)+(m:Int))=(n:Int)+(m:Int):=by rw[IntKind.wrap_i64];omega
   have hwn2:IntKind.i64.wrap ((n:Int)+(m:Int)+2)=(n:Int)+(m:Int)+2:=by rw[IntKind.wrap_i64];omega
   go_wp2_with fail
   go_loopw [9] (fun s9 wr=> ∃k:Nat,k≤n+m+2∧s9= .int .i64 (k:Int)∧∃U vC,Sep wB wr U∧(∀x,x≠0→x≠3→U x=V x)∧U 0=boxT b [vA,vB,vC]∧U 3=listT vC (raws k (fun _=>z0))) (fun s9 _=>n+m+2-(intOf s9).toNat)
   case atStart=>exact⟨0,by omega,rfl,V,_,hS,fun _ _ _=>rfl,v0,v3⟩
   case round=>
    clear hS v0 v3;obtain⟨k,hk,rfl,U,vC,hS,hku,hu0,hu3⟩:=hrel
    have hw2:IntKind.i64.wrap ((k:Int)+1)=(k:Int)+1:=by rw[IntKind.wrap_i64];omega
    by_cases hkt:k<n+m+2
    ·have hk0:(0:Int)≤(k:Int):=by omega
     have hk1:(k:Int)<(n:Int)+(m:Int)+2:=by omega
     have HX:=Lib.hid (raws_succ k (fun _=>z0))
     go_upto_region 19 with fail
     replace hS:=hS.drew
     refine wp_schH (S:=fun _=>True) (hc:=by as_aux_lemma=>kernel_rfl) (.p 0 (.p 1 (.p 2 (.p 3 (.b (.c 4 (.c 5 (.c 6 (.c 7 (.p 8 (.p 9 (.c 10 .e))))))) (.c 5 (.b (.c 4 (.c 6 (.c 7 (.p 8 (.p 9 (.c 10 .e)))))) (.c 6 (.c 4 (.c 7 (.p 8 (.p 9 (.c 10 .e))))))))))))) [3] fun zA WD hA aq=>?_
     simp only[←aq.out] at hS
     clear aq
     refine⟨trivial,fun hS0=>?_⟩
     repeat' first
      |((with_reducible refine isP ?_);refine tkO ?_)
      |(with_reducible refine brO ?_ ?_)
      |(
       with_reducible refine isC (i:=4) ?_
       refine ldC (i:=4) ((hS.box hu0).at 2 rfl) trivial ?_)
      |(
       with_reducible refine isC (i:=5) ?_
       refine caO (i:=5) (HZ.out _) fun e wn hz=>?_
       obtain⟨rfl,hb⟩:=hz;replace hS:=hS.below hb;clear hb
       refine⟨_,rfl,trivial,?_⟩)
      |(
       with_reducible refine isC (i:=6) ?_
       refine liO (i:=6) (k:=1) (l:= [⟨decide (z0.num<0),nb z0.num.natAbs,nb z0.den⟩]) (by simp) rfl rfl fun _ _ hr hg hb=>?_
       replace hS:=hS.below hb;have hlit:=hr;clear hr hg hb
       refine⟨trivial,?_⟩)
      |(
       with_reducible refine isC (i:=7) ?_
       refine apS (i:=7) (x:=3) (k:=k+1) hS hu3 hlit (by rw[raws_len];rfl) (by omega) fun aa ca wa hz _=>?_
       replace hS:=hz;clear hz hlit
       refine⟨trivial,?_⟩)
      |(
       with_reducible refine isC (i:=10) ?_
       refine stB (i:=10) (x:=0) (j:=2) hS (upd_o (by omega) hu0) rfl fun ws hz=>?_
       replace hS:=hz;clear hz
       refine⟨trivial,?_⟩)
     all_goals(
      refine enP hA ?_
      clear hA
      simp only[List.set] at hS
      rw[←HX.out] at hS
      obtain⟨U2,hS,hk2,h1,h2⟩:=hS.gen2 (by decide)
      go_wp2_with fail
      go_roundw
      case rel=>exact⟨k+1,by omega,by go_num,U2,_,hS,fun x e0 e3=>(hk2 x e3 e0).trans (hku x e0 e3),h2,h1⟩
      case measure=>simp[intOf];omega)
    ·obtain rfl:k=n+m+2:=by omega
     have hk1: ¬((n+m+2:Nat):Int)<(n:Int)+(m:Int)+2:=by omega
     generalize ((n+m+2:Nat):Int)=kk at*
     go_wp2_with fail
     go_ret
     obtain⟨a3,c3,e3⟩:=(hS.lst hu3).form;rw[raws_len] at e3
     obtain⟨a4,c4,e4,_⟩:=(hS.vals ((hku 1 (by decide) (by decide)).trans v1)).form
     obtain⟨a5,c5,e5,_⟩:=(hS.ints ((hku 2 (by decide) (by decide)).trans v2)).form
     rw[List.length_map,List.length_range] at e4 e5;subst e3 e4 e5
     refine⟨b,rfl,a4,c4,a5,c5,a3,c3,rv_,U,hS.rebase HB0.out,hu0,(hku 1 (by decide) (by decide)).trans v1,((hku 2 (by decide) (by decide)).trans v2).trans ?_,hu3.trans ?_,fun q hq=>(hku _ (by omega) (by omega)).trans (vr q hq)⟩
     ·rfl
     ·rw[show n+m+1+1=n+m+2 from rfl]
      congr 1
      exact raws_congr fun j _=>by rw[cost0];exact H0.out
theorem rright2_rv (q:Rat) (w:World) (h:Sz q 134217728):Calls Tryz.prog 52 #[rv q] w fun e w'=>e= .returned (.bool true)∧Below w.heap.size w w':=by
 have:=rright2_any (decide (q.num<0)) (nb q.num.natAbs) (nb q.den) w h.1 h.2
 rwa [rawB_rat] at this
theorem sgn_lt0 (q:Rat):Rq.sgn q<0↔q<0:=by
 rw[←Rq.sgn_lt];have:=Rq.sgn_cases q
 omega
theorem numbers_any (a:Option Addr) (m c:Nat) (F:Nat→Rat) (w:World) (h:SlO w (.slice a m c) m F) (hm:m≤100000) (sF: ∀i,i<m→Sz (F i) 134217728):
  Calls Tryz.prog 51 #[.slice a m c] w fun e w'=>e= .returned (.bool true)∧Below w.heap.size w w':=by
 have HR:=Lib.hid (fun j (hj:j<m) W=>rright2_rv (F j) W (sF j hj));have HF:=Lib.hid (fun j (hj:j<m)=>h.get hj)
 simp only[rv] at HR
 clear h sF
 go_enter Tryz.func51,Tryz.ntmps51
 have ag:=(Below.refl w.heap.size w)
 go_upto_region 1 with fail
 have ag:=Below.refl w.heap.size w
 go_wp2_with fail
 go_loopw [3] (fun s3 wr=> ∃i:Nat,i≤m∧s3= .int .i64 (i:Int)∧Below w.heap.size w wr) (fun s3 _=>m-(intOf s3).toNat)
 case atStart=>exact⟨0,by omega,rfl,ag⟩
 case round=>
  clear ag;obtain⟨i,hi,rfl,ag⟩:=hrel
  have hw1:IntKind.i64.wrap ((i:Int)+1)=(i:Int)+1:=by rw[IntKind.wrap_i64];omega
  by_cases hlt:i<m
  ·have hi0:(0:Int)≤(i:Int):=by omega
   have hi1:(i:Int)<(m:Int):=by omega
   obtain⟨g,o,rfl,hg⟩:=HF.out i hlt;obtain⟨k0,k1,k2⟩:=hg _ ag;clear hg
   go_wp2_with fail
   clear k0 k1 k2
   with_reducible refine(HR.out i hlt _).mono ?_
   rintro e wX ⟨rfl,am⟩;replace ag:=ag.tr am;clear am
   go_wp2_with fail
   go_roundw
   case rel=>exact⟨i+1,by omega,by go_num,ag⟩
   case measure=>simp[intOf];omega
  ·obtain rfl:m=i:=by omega
   have hi1: ¬(m:Int)<(m:Int):=by omega
   go_wp2_with fail
   go_ret
   exact⟨rfl,ag⟩
end Go.Proofs.YtinmmkcjjlconaaGreat
namespace Go.Proofs.YtinmmkcjjlconaaGreat
open Go.RowKit W
open Pl (nb bv bv_nb nb_size_zero)
open Lp (S S_succ Cert Out Unb)
theorem rprog_any (m n:Nat) (A:Nat→Nat→Rat) (B C:Nat→Rat) (a0 a1 a2:Option Addr) (c0 c1 c2:Nat) (w:World) (h:PR w (.agg #[.slice a0 m c0,.slice a1 m c1,.slice a2 n c2]) m n A B C) (hm:m≤100) (hn:n≤5000) (hs:SzP m n A B C 134217728):
  Calls Tryz.prog 45 #[.agg #[.slice a0 m c0,.slice a1 m c1,.slice a2 n c2]] w fun e w'=>e= .returned (.bool true)∧Below w.heap.size w w':=by
 obtain⟨hA,hB,hC⟩:=h.parts
 have HB:=Lib.hid (fun W (hb:Below w.heap.size w W)=>numbers_any a1 m c1 B W (hB.below hb) (by omega) (fun i hi=>hs.b i hi))
 have HC:=Lib.hid (fun W (hb:Below w.heap.size w W)=>numbers_any a2 n c2 C W (hC.below hb) (by omega) (fun j hj=>hs.c j hj))
 have HA:=Lib.hid (fun i (hi:i<m)=>hA.row hi)
 have HN:=Lib.hid (fun i (hi:i<m) a c W hr=>numbers_any a n c (A i) W hr (by omega) (fun j hj=>hs.a i j hi hj))
 have hm1: ¬(100:Int)<(m:Int):=by omega
 have hn1: ¬(5000:Int)<(n:Int):=by omega
 clear h hA hB hC hs
 go_enter Tryz.func45,Tryz.ntmps45
 have⟨bP,ag⟩:=opn1 w [.slice a0 m c0,.slice a1 m c1,.slice a2 n c2] 29
 go_upto_region 1 with fail
 generalize w.alloc (.cells #[.slice a0 m c0,.slice a1 m c1,.slice a2 n c2] 29)=W0 at*;obtain⟨gP,hgP⟩: ∃g,g=w.heap.size:=⟨_,rfl⟩;rw[←hgP] at bP
 simp only[←hgP]
 have kgP:w.heap.size≤gP:=by omega
 clear hgP;have⟨cP0,fP0,cP1,fP1,cP2,fP2⟩:=bP.all3
 go_wp2_with fail
 clear cP0 fP0 cP1 fP1 cP2 fP2
 with_reducible refine(HB.out _ ag).mono ?_
 rintro e wX ⟨rfl,am⟩;replace ag:=ag.tr am;replace bP:=bP.below am;clear am;have⟨cP0,fP0,cP1,fP1,cP2,fP2⟩:=bP.all3
 go_wp2_with fail
 clear cP0 fP0 cP1 fP1 cP2 fP2
 with_reducible refine(HC.out _ ag).mono ?_
 rintro e wX ⟨rfl,am⟩;replace ag:=ag.tr am;replace bP:=bP.below am;clear am;have⟨cP0,fP0,cP1,fP1,cP2,fP2⟩:=bP.all3
 go_wp2_with fail
 clear cP0 fP0 cP1 fP1 cP2 fP2
 go_loopw [5] (fun s5 wr=> ∃i:Nat,i≤m∧s5= .int .i64 (i:Int)∧Rx wr gP [.slice a0 m c0,.slice a1 m c1,.slice a2 n c2]∧Below w.heap.size w wr) (fun s5 _=>m-(intOf s5).toNat)
 case atStart=>exact⟨0,by omega,rfl,bP,ag⟩
 case round=>
  clear bP ag;obtain⟨i,hi,rfl,bP,ag⟩:=hrel;have p0:=bP.at 0 rfl
  have hw1:IntKind.i64.wrap ((i:Int)+1)=(i:Int)+1:=by rw[IntKind.wrap_i64];omega
  by_cases hlt:i<m
  ·have hi0:(0:Int)≤(i:Int):=by omega
   have hi1:(i:Int)<(m:Int):=by omega
   obtain⟨g1,e1,f1,rfl,hr1⟩:=HA.out i hlt;obtain⟨k1,hsl⟩:=hr1 _ ag;have HR1:=Lib.hid hr1;clear hr1
   go_wp2_with fail
   clear p0 k1
   with_reducible refine(HN.out i hlt _ _ _ hsl).mono ?_
   rintro e wX ⟨rfl,am⟩;clear hsl;replace ag:=ag.tr am;replace bP:=bP.below am;clear am
   go_upto_region 9 with fail
   replace bP:=bP.drew;replace ag:=ag.drew
   refine wp_schH (S:=fun w'=>w'.cell? ⟨gP,0,none⟩=some (.slice (some ⟨g1,0,none⟩) m c0)∧w'.cell? ⟨gP,2,none⟩=some (.slice a2 n c2)∧w'.cell? ⟨g1,i,none⟩=some (.slice e1 n f1)) (hc:=by as_aux_lemma=>kernel_rfl) (.p 0 (.p 1 (.p 2 (.p 3 (.p 4 (.p 5 (.p 6 (.p 7 (.p 8 (.p 9 (.p 10 (.p 11 (.p 12 (.p 13 .e)))))))))))))) [1,5,6] fun zA WD hA aq=>?_
   simp only[←aq.out] at bP ag
   clear aq
   refine⟨⟨bP.at 0 rfl,bP.at 2 rfl,(HR1.out _ ag).1⟩,fun hS0=>?_⟩
   repeat' first
    |((with_reducible refine isP ?_);refine tkO ?_)
   refine enP hA ?_
   clear hA
   go_wp2_with fail
   go_roundw
   case rel=>exact⟨i+1,by omega,by go_num,bP,ag⟩
   case measure=>simp[intOf];omega
  ·obtain rfl:m=i:=by omega
   have hi1: ¬(m:Int)<(m:Int):=by omega
   go_wp2_with fail
   go_ret
   exact⟨rfl,ag⟩
end Go.Proofs.YtinmmkcjjlconaaGreat
